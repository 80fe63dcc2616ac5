/- Part 5 of what the law LawRingLengths needs. No condition but those each theorem states. -/
import Derived.ChangeOld
import Derived.ChangeSlices
import Derived.Deep.Matrix
import Derived.Deep.MidRow
import Derived.Deep.SlicePairs
import Derived.OpenShut
import Derived.ProofKit
import Derived.SizedLaws
import Derived.Test.YtlocplkjokoknaaPkLawRingLengthsD
/- Unwrap. No condition but those each theorem states. -/
namespace Go.Proofs.Ytlocplkjokoknaa
set_option linter.unusedVariables false
set_option linter.unusedSimpArgs false
open Go.RowKit
attribute [local go_sem ↓] Go.wp_at_zero Go.wp_at_succ

/-- What a key learns of wraps. -/
def unwrapL (s : BSt) (k : List UInt8) : List (List UInt8) → Kys × Int
  | [] => (kysZ, 13)
  | x :: xs => match openS s k wrapB x with
    | none => unwrapL s k xs
    | some t => if learnB t then (learnK t, 0) else unwrapL s k xs
theorem unwrapL_drop {s : BSt} {k x : List UInt8} {xs : List (List UInt8)} {j : Nat} (h : xs[j]? = some x) : unwrapL s k (xs.drop j) = (match openS s k wrapB x with | none => unwrapL s k (xs.drop (j + 1)) | some t => if learnB t then (learnK t, 0) else unwrapL s k (xs.drop (j + 1))) := by
  obtain ⟨hj, he⟩ := List.getElem?_eq_some_iff.1 h
  rw [List.drop_eq_getElem_cons hj, he]
  rfl
theorem ok_unwrapL (s : BSt) (k : List UInt8) (xs : List (List UInt8)) : OkK (unwrapL s k xs).1 := by
  induction xs with
  | nil => exact ok_kysZ
  | cons x xs ih =>
    rw [unwrapL]
    split
    · exact ih
    · split
      · exact ok_learnK _
      · exact ih
theorem openS_len {s : BSt} {k b x t : List UInt8} (h : openS s k b x = some t) (hx : x.length ≤ 70000) (ht : ∀ p ∈ s.m, s.mode = 1 → p.2.text.length ≤ 100000) (hmo : s.mode = 0 ∨ s.mode = 1) : t.length ≤ 100000 := by
  rcases hmo with h0 | h1
  · rw [openS, if_pos h0] at h
    split at h
    · cases h
    · rw [openL] at h
      split at h
      · cases h
      · split at h
        · injection h with h
          rw [← h, streamL_length, List.length_take, List.length_drop]
          omega
        · cases h
  · rw [openS, if_neg (by omega)] at h
    cases hl : lookM s.m x with
    | none => rw [hl] at h; cases h
    | some e =>
      rw [hl] at h
      simp only at h
      split at h
      · injection h with h
        simp only [lookM, Option.map_eq_some_iff] at hl
        obtain ⟨p, hp, he⟩ := hl
        rw [← h, ← he]
        exact ht p (List.mem_of_find?_eq_some hp) h1
      · cases h
set_option maxRecDepth 100000 in
set_option maxHeartbeats 4000000 in
theorem unwrap_any (w0 : World) (g S D b lo : Nat) (s : BSt) (w : World) (h : BoxB w0 g S D b lo s w) (hmo : s.mode = 0 ∨ s.mode = 1) (v : Value) (xs : List (List UInt8)) (d : List UInt8) (base : Nat) (hv : RgB base w v xs d) (hxs : ∀ x ∈ xs, x.length ≤ 70000) (hl : xs.length ≤ 1000)
    (k : List UInt8) (hk : k.length = 32) (ht : ∀ p ∈ s.m, s.mode = 1 → p.2.text.length ≤ 100000) :
    Calls Try.prog 12 #[.pointer (some ⟨g, 0, none⟩), v, .agg (W8 k)] w fun e w' => e = .returned (.tuple #[.agg (RowK (unwrapL s k xs).1).toArray, .int .i64 (unwrapL s k xs).2]) ∧ Below w.heap.size w w' := by
  have ZK := Lib.hid zeroK
  have H := Lib.hid h
  have HMO := Lib.hid hmo
  have HXS := Lib.hid hxs
  have HK := Lib.hid hk
  have HT := Lib.hid ht
  obtain ⟨A1, c1, vs, dv, rfl, hc1, hvl, hrv, hA1, hxv, hdv⟩ := hv
  obtain ⟨q, hq⟩ : ∃ q, q = xs.length := ⟨_, rfl⟩
  have RV := Lib.hid hrv
  have XV := Lib.hid hxv
  have VL := Lib.hid (show vs.length = q by rw [hvl, hq])
  obtain ⟨rc, hrc⟩ : ∃ rc : Array Value, rc = #[.slice A1 xs.length c1, dv] := ⟨_, rfl⟩
  rw [← hrc]
  have IR := Lib.hid (show (Try.prog.info? 32).map (·.size) = some rc.size by rw [hrc]; exact info_ring)
  have R0 := Lib.hid (show rc[0]? = some (.slice A1 q c1) by rw [hrc, hq]; rfl)
  have IK := Lib.hid (info_keyW hk)
  obtain ⟨r, hr⟩ : ∃ r, r = unwrapL s k xs := ⟨_, rfl⟩
  rw [← hr]
  have RE := Lib.hid hr
  have Q1 := Lib.hid hq.symm
  have OKR := Lib.hid (show OkK r.1 by rw [hr]; exact ok_unwrapL _ _ _)
  have QB := Lib.hid (show q ≤ 1000 by omega)
  have b0 : (q : Int) ≤ 1000 := by omega
  clear h hmo hxs hk ht hc1 hvl hrv hA1 hxv hdv hrc hr hq hl
  go_enter Try.func12, Try.ntmps12
  go_upto_region 1 with fail
  rw [← ZK.out]
  generalize hM4 : Array.size (World.heap w) = M4
  generalize hwa : World.alloc w _ = wa
  have sa : wa.heap.size = M4 + 1 := by rw [← hwa, ha_size, hM4]
  have ra : wa.heap[M4]? = some (.cells rc 32 (0, 0)) := by rw [← hwa]; exact ha_new _ _ _ hM4.symm
  generalize hwb : World.alloc wa _ = wb
  have sb : wb.heap.size = M4 + 2 := by rw [← hwb, ha_size, sa]
  have rb : wb.heap[M4 + 1]? = some (.cells (W8 k) 35 (0, 0)) := by rw [← hwb]; exact ha_new _ _ _ sa.symm
  have ba : Below wa.heap.size wa wb := by rw [← hwb]; exact below_new _ _
  generalize hwc : World.alloc wb _ = w3
  have bb : Below wb.heap.size wb w3 := by rw [← hwc]; exact below_new _ _
  have R6 := Lib.hid (show w3.heap[M4 + 1 + 1]? = some (.cells (RowK kysZ).toArray 37 (0, 0)) by rw [← hwc]; exact ha_new _ _ _ sb.symm)
  have R5 := Lib.hid (below_block bb (row_lt rb) rb)
  have R4 := Lib.hid (below_block bb (row_lt (below_block ba (row_lt ra) ra)) (below_block ba (row_lt ra) ra))
  have B3 := Lib.hid (show Below w.heap.size w w3 from by
    have h1 : Below w.heap.size w wa := by rw [← hwa]; exact below_new _ _
    exact (h1.trans (ba.mono h1.size)).trans (bb.mono (h1.trans (ba.mono h1.size)).size))
  have ME := Lib.hid hM4
  have H3 := Lib.hid (H.out.keep B3.out)
  clear hwa sa ra hwb sb rb ba hwc bb hM4
  go_wp2_with fail
  refine (none_any w0 g S D b lo s w3 H3.out).mono ?_
  rintro e w4 ⟨rfl, hb⟩
  have B4 := Lib.hid hb
  clear hb
  have R44 := Lib.hid (below_block B4.out (row_lt R4.out) R4.out)
  go_upto_region 3 with fail
  refine wp_region_list ?_
  simp only [List.toList_toArray]
  refine wpList_val (v := ?_) (by rfl) ?_ ?_
  rotate_left
  · go_simp
    with_reducible rfl
  simp only [Act.put, List.setIfInBounds_toArray, List.set_cons_zero, List.set_cons_succ]
  refine wpList_val (by rfl) (run_cell 30 (.tmp 17) rfl _ Try.underlying30 rfl rfl (row_cell R44.out 0 R0.out)) ?_
  simp only [Act.put, List.setIfInBounds_toArray, List.set_cons_zero, List.set_cons_succ]
  refine wpList_val (v := ?_) (by rfl) ?_ ?_
  rotate_left
  · go_simp
    with_reducible rfl
  simp only [Act.put, List.setIfInBounds_toArray, List.set_cons_zero, List.set_cons_succ]
  refine wpList_val (v := ?_) (by rfl) ?_ ?_
  rotate_left
  · go_simp
    with_reducible rfl
  simp only [Act.put, List.setIfInBounds_toArray, List.set_cons_zero, List.set_cons_succ]
  go_wp2_with fail
  go_loopw [20] (fun i wr => ∃ j : Nat, j ≤ q ∧ i = .int .i64 (j : Int) ∧ r = unwrapL s k (xs.drop j) ∧ Below w3.heap.size w3 wr) (fun i _ => q - (intOf i).toNat)
  case atStart => exact ⟨0, Nat.zero_le _, rfl, RE.out, B4.out⟩
  case round =>
    obtain ⟨j, hj, rfl, hre, hb⟩ := hrel
    have J := Lib.hid hj
    have RJ := Lib.hid hre
    have BW := Lib.hid hb
    clear hj hre hb B4 R44
    obtain ⟨wp, rfl⟩ : ∃ wp : World, wp = wr := ⟨_, rfl⟩
    have BP := Lib.hid (show Below w.heap.size w wp from B3.out.trans (BW.out.mono B3.out.size))
    have R6P := Lib.hid (below_block BW.out (row_lt R6.out) R6.out)
    by_cases hlt : j < q
    · have hD : decide ((j : Int) < (q : Int)) = true := by simp; omega
      obtain ⟨x, hx⟩ : ∃ x, xs[j]? = some x := ⟨_, List.getElem?_eq_getElem (by rw [Q1.out]; exact hlt)⟩
      obtain ⟨u, hu, hsl⟩ := XV.out j x hx
      obtain ⟨Ax, cx, rfl, hcx, hrx, _⟩ := hsl
      obtain ⟨b1, o1, hA1, hcell⟩ := RV.out j _ hu
      obtain ⟨m, hm⟩ : ∃ m, m = x.length := ⟨_, rfl⟩
      rw [← hm] at hcell hcx
      have XM := Lib.hid (List.mem_of_getElem? hx)
      have UD := Lib.hid (unwrapL_drop (s := s) (k := k) hx)
      have CX := Lib.hid (cell_same hcell (BP.out.block b1 (cell_lt hcell)))
      have RX := Lib.hid (hrx.keep BP.out)
      have XC := Lib.hid hcx
      have XL := Lib.hid hm.symm
      have XB := Lib.hid (show m ≤ 70000 by rw [hm]; exact HXS.out x XM.out)
      have AE := Lib.hid hA1
      have JQ := Lib.hid hlt
      have jb : (j : Int) ≤ 999 := by have := QB.out; omega
      have R5P := Lib.hid (below_block BW.out (row_lt R5.out) R5.out)
      clear hx hu hcx hrx hA1 hcell hm hlt
      go_upto_region 5 with fail
      refine wp_region_list ?_
      simp only [List.toList_toArray]
      refine wpList_val (by rfl) (run_iaddr_slk 30 (.tmp 18) (.tmp 20) rfl 22 Try.underlying30 1 (by kernel_rfl) b1 o1 q c1 j JQ.out .i64 _ rfl (by rw [← AE.out]; rfl) rfl _) ?_
      simp only [Act.put, List.setIfInBounds_toArray, List.set_cons_zero, List.set_cons_succ]
      refine wpList_val (by rfl) (run_cell 22 (.tmp 22) rfl _ Try.underlying22 rfl rfl (by rw [Nat.mul_one]; exact CX.out)) ?_
      simp only [Act.put, List.setIfInBounds_toArray, List.set_cons_zero, List.set_cons_succ]
      go_upto_region 6 with fail
      refine wp_region_list ?_
      simp only [List.toList_toArray]
      refine wpList_val (v := ?_) (by rfl) ?_ ?_
      rotate_left
      · go_simp
        with_reducible rfl
      simp only [Act.put, List.setIfInBounds_toArray, List.set_cons_zero, List.set_cons_succ]
      refine wpList_val (by rfl) (run_load_row 35 (.tmp 5) rfl (M4 + 1) rfl 35 (W8 k) (0, 0) _ R5P.out Try.underlying35 rfl IK.out) ?_
      simp only [Act.put, List.setIfInBounds_toArray, List.set_cons_zero, List.set_cons_succ]
      refine wpList_op (by rfl) (fun K hK => ?_)
      refine wp_wrap rfl ?_
      generalize hB : Array.size (World.heap wp) = N4
      generalize hw : World.alloc wp _ = w9
      have B9 := Lib.hid (show Below wp.heap.size wp w9 by rw [← hw]; exact below_new _ _)
      have R9 := Lib.hid (show w9.heap[N4]? = some (.cells (W8 wrapB) 5 (0, 0)) by rw [← hw]; exact ha_new _ _ _ hB.symm)
      have N4E := Lib.hid hB
      clear hB hw
      refine hK.out _ _ ?_
      clear hK K
      simp only [Act.put, List.setIfInBounds_toArray, List.set_cons_zero, List.set_cons_succ]
      refine wpList_op (by rfl) (fun K hK => ?_)
      refine wp_cv (.tmp 27) rfl R9.out rfl ?_
      intro w10 hr10 hg10 _
      have B10 := Lib.hid (show Below wp.heap.size wp w10 from grown_below_on B9.out hg10 (by rw [N4E.out]; exact Nat.le_refl _))
      have R10 := Lib.hid (show RdB w10 (some ⟨N4, 0, none⟩) wrapB from RdB.row hr10)
      clear hr10 hg10 R9 B9
      refine hK.out _ _ ?_
      clear hK K
      simp only [Act.put, List.setIfInBounds_toArray, List.set_cons_zero, List.set_cons_succ]
      refine wpList_val (v := ?_) (by rfl) ?_ ?_
      rotate_left
      · go_simp
        with_reducible rfl
      simp only [Act.put, List.setIfInBounds_toArray, List.set_cons_zero, List.set_cons_succ]
      refine wpList_op (by rfl) (fun K hK => ?_)
      go_simp
      refine (bopen_both w0 g S D b lo s w10 ((H.out.keep BP.out).keep B10.out) HMO.out k wrapB x HK.out (some ⟨N4, 0, none⟩) 4 4 rfl R10.out (by omega) Ax m cx XL.out XC.out (RX.out.keep B10.out) XB.out HT.out).mono ?_
      rcases hop : openS s k wrapB x with _ | t
      · have RN := Lib.hid (show r = unwrapL s k (xs.drop (j + 1)) by have h1 := UD.out; rw [hop] at h1; rw [RJ.out, h1])
        clear hop
        rintro e w11 hop
        obtain ⟨rfl, hb⟩ := OpenP.no hop
        have BN := Lib.hid (show Below w3.heap.size w3 w11 from BW.out.trans ((B10.out.trans (hb.mono B10.out.size)).mono BW.out.size))
        clear hop hb
        refine hK.out _ _ ?_
        clear hK K
        go_wp2_with fail
        go_roundw
        case rel => exact ⟨j + 1, by have := JQ.out; omega, by go_num, RN.out, BN.out⟩
        case measure => have := JQ.out; simp [intOf]; omega
      · have UT := Lib.hid (show r = if learnB t then (learnK t, 0) else unwrapL s k (xs.drop (j + 1)) by have h1 := UD.out; rw [hop] at h1; rw [RJ.out, h1])
        have TLEN := Lib.hid (openS_len hop (by rw [XL.out]; exact XB.out) HT.out HMO.out)
        clear hop
        rintro e w11 hop
        obtain ⟨⟨vt, rfl, ho⟩, hb⟩ := OpenP.yes hop
        obtain ⟨At, ct, rfl, hrt, _, _, _⟩ := ho.read
        have RT := Lib.hid hrt
        have BN := Lib.hid (show Below w3.heap.size w3 w11 from BW.out.trans ((B10.out.trans (hb.mono B10.out.size)).mono BW.out.size))
        obtain ⟨nt, hnt⟩ : ∃ nt, nt = t.length := ⟨_, rfl⟩
        rw [← hnt]
        have NT := Lib.hid hnt.symm
        clear hop ho hb hrt hnt
        refine hK.out _ _ ?_
        clear hK K
        go_upto_region 8 with fail
        refine wp_region_list ?_
        simp only [List.toList_toArray]
        refine wpList_val (v := ?_) (by rfl) ?_ ?_
        rotate_left
        · go_simp
          with_reducible rfl
        simp only [Act.put, List.setIfInBounds_toArray, List.set_cons_zero, List.set_cons_succ]
        refine wpList_op (by rfl) (fun K hK => ?_)
        go_simp
        refine (learn_any w11 At nt ct t NT.out RT.out (by have := TLEN.out; have := NT.out; omega)).mono ?_
        rintro e w12 ⟨rfl, hb⟩
        have B12 := Lib.hid (show Below w3.heap.size w3 w12 from BN.out.trans (hb.mono BN.out.size))
        obtain ⟨y, hy⟩ : ∃ y, y = learnK t := ⟨_, rfl⟩
        obtain ⟨lb, hlb⟩ : ∃ lb, lb = learnB t := ⟨_, rfl⟩
        rw [← hy, ← hlb] at UT ⊢
        have OY := Lib.hid (show OkK y by rw [hy]; exact ok_learnK t)
        clear hb hy hlb
        refine hK.out _ _ ?_
        clear hK K
        rcases lb with _ | _
        · have RN := Lib.hid (show r = unwrapL s k (xs.drop (j + 1)) by rw [UT.out]; rfl)
          go_upto_region 9 with (refine wpList_store_new rfl rfl 37 (.tmp 12) (.tmp 38) rfl (RowK y).toArray rfl rfl (info_kysC _ OY.out) (by rw [← ZK.out, sizeK _ ok_kysZ, sizeK _ OY.out]) (rowK_one _) ?_)
          generalize hw13 : World.alloc w12 _ = w13
          have BE := Lib.hid (show Below w3.heap.size w3 w13 by rw [← hw13]; exact B12.out.alloc B12.out.size _)
          clear hw13
          go_wp2_with fail
          go_roundw
          case rel => exact ⟨j + 1, by have := JQ.out; omega, by go_num, RN.out, BE.out⟩
          case measure => have := JQ.out; simp [intOf]; omega
        · have RN := Lib.hid (show r = (y, 0) by rw [UT.out]; rfl)
          go_upto_region 9 with (refine wpList_store_new rfl rfl 37 (.tmp 12) (.tmp 38) rfl (RowK y).toArray rfl rfl (info_kysC _ OY.out) (by rw [← ZK.out, sizeK _ ok_kysZ, sizeK _ OY.out]) (rowK_one _) ?_)
          generalize hM12 : Array.size (World.heap w12) = M12
          generalize hw13 : World.alloc w12 _ = w13
          have BE := Lib.hid (show Below w3.heap.size w3 w13 by rw [← hw13]; exact B12.out.alloc B12.out.size _)
          have R12 := Lib.hid (show w13.heap[M12]? = some (.cells (RowK y).toArray 37 (0, 0)) by rw [← hw13]; exact ha_new _ _ _ hM12.symm)
          have R6E := Lib.hid (below_block BE.out (row_lt R6.out) R6.out)
          clear hM12 hw13
          go_upto_region 10 with fail
          refine wp_region_list ?_
          simp only [List.toList_toArray]
          refine wpList_val (by rfl) (run_load_row 37 (.tmp 12) rfl M12 rfl 37 (RowK y).toArray (0, 0) _ R12.out Try.underlying37 rfl (info_kysC _ OY.out)) ?_
          simp only [Act.put, List.setIfInBounds_toArray, List.set_cons_zero, List.set_cons_succ]
          refine wpList_store_whole rfl rfl 37 (.tmp 6) (.tmp 41) rfl (M4 + 1 + 1) (RowK y).toArray rfl rfl 37 _ R6E.out (info_kysC _ OY.out) (by rw [sizeK _ ok_kysZ, sizeK _ OY.out]) (rowK_one _) ?_
          intro w14 hr14 hg14 _
          have Z14 := Lib.hid hr14
          have BF := Lib.hid (grown_below_on (B3.out.trans (BE.out.mono B3.out.size)) hg14 (by rw [ME.out]; omega))
          clear hr14 hg14
          go_wp2_with fail
          exact ret_cell (M4 + 1 + 1) 37 (RowK y).toArray _ rfl rfl rfl rfl Z14.out Try.underlying37 rfl (info_kysC _ OY.out) ⟨by rw [RN.out]; rfl, BF.out⟩
    · have hD : decide ((j : Int) < (q : Int)) = false := by simp; omega
      have RN := Lib.hid (show r = (kysZ, 13) by rw [RJ.out, List.drop_of_length_le (by rw [Q1.out]; omega)]; rfl)
      go_upto_region 12 with fail
      refine wp_region_list ?_
      simp only [List.toList_toArray]
      refine wpList_val (by rfl) (run_zeroK rfl _) ?_
      simp only [Act.put, List.setIfInBounds_toArray, List.set_cons_zero, List.set_cons_succ]
      refine wpList_store_whole rfl rfl 37 (.tmp 6) (.tmp 43) rfl (M4 + 1 + 1) (RowK kysZ).toArray rfl rfl 37 _ R6P.out (info_kysC _ ok_kysZ) rfl (rowK_one _) ?_
      intro w14 hr14 hg14 _
      have Z14 := Lib.hid hr14
      have BF := Lib.hid (grown_below_on BP.out hg14 (by rw [ME.out]; omega))
      clear hr14 hg14
      go_wp2_with fail
      exact ret_cell (M4 + 1 + 1) 37 (RowK kysZ).toArray _ rfl rfl rfl rfl Z14.out Try.underlying37 rfl (info_kysC _ ok_kysZ) ⟨by rw [RN.out]; rfl, BF.out⟩
end Go.Proofs.Ytlocplkjokoknaa

/- A number that is laid is read: plain. No condition but those each theorem states. -/
namespace Go.Proofs.Ytlocplkjokoknaa
set_option linter.unusedVariables false
set_option linter.unusedSimpArgs false
open Go.RowKit

theorem beVal_foldl (k x : Nat) : ∀ v, (beL k x).foldl (fun v c => v * 256 + c.toNat) v = v * 2 ^ (8 * k) + x % 2 ^ (8 * k) := by
  induction k with
  | zero => intro v; simp [beL, Nat.mod_one]
  | succ k ih =>
    intro v
    rw [beL, List.foldl_cons, ih, show 8 * (k + 1) = 8 * k + 8 by omega, Nat.pow_add]
    have h1 : (UInt8.ofNat (x / 2 ^ (8 * k))).toNat = (x / 2 ^ (8 * k)) % 256 := by simp
    rw [h1, Nat.mod_mul]
    generalize 2 ^ (8 * k) = p
    generalize x / p % (2 ^ 8) = q
    generalize x % p = r
    have e : (2 : Nat) ^ 8 = 256 := by decide
    rw [e]
    rw [Nat.add_mul, Nat.mul_assoc, Nat.mul_comm 256 p, Nat.mul_comm q p]
    omega
theorem beVal_beL (k x : Nat) : beVal (beL k x) = x % 2 ^ (8 * k) := by
  have := beVal_foldl k x 0
  simpa [beVal] using this
theorem takeS_all (l more : List UInt8) (n : Nat) (h0 : 0 < n) (hn : l.length = n) : takeS ⟨l ++ more, 0⟩ (n : Int) = (⟨more, 0⟩, l, true) := by
  unfold takeS
  rw [if_neg (by simp; omega), if_neg (by simp; omega)]
  simp [← hn]
theorem takeS_short (l : List UInt8) (n : Nat) (h0 : 0 < n) (hn : l.length < n) : takeS ⟨l, 0⟩ (n : Int) = (⟨[], 10⟩, [], false) := by
  unfold takeS
  rw [if_neg (by simp; omega), if_pos (by simp; omega)]
/-- A number that was laid in so many bytes. -/
theorem numS_beL (x : Nat) (n : Nat) (h0 : 0 < n) (h8 : n ≤ 8) (more : List UInt8) : numS ⟨beL n x ++ more, 0⟩ (n : Int) = (⟨more, 0⟩, x % 2 ^ (8 * n)) := by
  unfold numS
  rw [show min (n : Int) 8 = (n : Int) by omega, takeS_all _ _ _ h0 (beL_length _ _), beVal_beL]
end Go.Proofs.Ytlocplkjokoknaa

/- A ring in the mode Ideal, over a source that tells no window twice: plain. No condition but those each theorem states. -/
namespace Go.Proofs.Ytlocplkjokoknaa
set_option linter.unusedVariables false
set_option linter.unusedSimpArgs false
open Go.RowKit

/-- What is learned of a text that was wrapped. -/
def seenK (y : Kys) (o : Bool) : Kys := ⟨y.e, y.k, if o then y.o else z32, o⟩
theorem learnK_text {y : Kys} (hy : OkK y) (o : Bool) : learnK (textL y o) = seenK y o := by
  have e0 : textL y o = beL 8 y.e.toNat ++ (y.k ++ ([if o then 1 else 0] ++ (if o then y.o else z32))) := by simp [textL, List.append_assoc]
  have ho : (if o then y.o else z32).length = 32 := by cases o <;> simp [hy.2, z32]
  have h1 : learn1 (textL y o) = (⟨y.k ++ ([if o then 1 else 0] ++ (if o then y.o else z32)), 0⟩, y.e.toNat) := by
    rw [learn1, e0]
    have := numS_beL y.e.toNat 8 (by omega) (by omega) (y.k ++ ([if o then 1 else 0] ++ (if o then y.o else z32)))
    rw [show ((8 : Nat) : Int) = 8 from rfl] at this
    rw [this, Nat.mod_eq_of_lt (by have := y.e.toNat_lt; simpa using this)]
  have h2 : learn2 (textL y o) = (⟨[if o then 1 else 0] ++ (if o then y.o else z32), 0⟩, y.k, true) := by
    rw [learn2, h1]
    have := takeS_all y.k ([if o then 1 else 0] ++ (if o then y.o else z32)) 32 (by omega) hy.1
    rw [show ((32 : Nat) : Int) = 32 from rfl] at this
    exact this
  have h3 : learn3 (textL y o) = (⟨if o then y.o else z32, 0⟩, if o then 1 else 0) := by
    rw [learn3, h2, numS]
    have := takeS_all [if o then 1 else 0] (if o then y.o else z32) 1 (by omega) rfl
    rw [show ((1 : Nat) : Int) = 1 from rfl] at this
    rw [show min (1 : Int) 8 = 1 from rfl]
    show ((takeS ⟨[if o then 1 else 0] ++ (if o then y.o else z32), 0⟩ 1).1, beVal (takeS ⟨[if o then 1 else 0] ++ (if o then y.o else z32), 0⟩ 1).2.1) = _
    rw [this]
    cases o <;> rfl
  have h4 : learn4 (textL y o) = (⟨[], 0⟩, (if o then y.o else z32), true) := by
    rw [learn4, h3]
    have := takeS_all (if o then y.o else z32) [] 32 (by omega) ho
    rw [show ((32 : Nat) : Int) = 32 from rfl, List.append_nil] at this
    exact this
  rw [learnK, h1, h2, h3, h4, seenK]
  show (⟨UInt64.ofNat y.e.toNat, fitK y.k, fitK (if o then y.o else z32), decide ((if o then 1 else 0) = 1)⟩ : Kys) = _
  rw [fitK_full hy.1, fitK_full ho, UInt64.ofNat_toNat]
  cases o <;> rfl
theorem learnB_text {y : Kys} (hy : OkK y) (o : Bool) : learnB (textL y o) = true := by
  rw [learnB, learnK_text hy]
  apply decide_eq_true
  cases o <;> rfl
theorem learnB_full : learnB fullL = false := by decide +kernel
/-- The entry of a wrap. -/
def entI (y : Kys) (l : List Mem) (i : Nat) (e : Ent) : Prop :=
  match l[i]? with
  | some z => e = ⟨z.k, wrapB, textL y z.o⟩
  | none => e.beside = wrapB ∧ e.text = fullL
theorem entAt_entI (y : Kys) (l : List Mem) (i : Nat) (s : BSt) : entI y l i (entAt y l i s).2 := by
  unfold entI entAt
  cases l[i]? with
  | some z => rfl
  | none => exact ⟨rfl, rfl⟩
theorem seal_ideal {N : Nat} {s s' : BSt} {e : Ent} {r : Option (List UInt8)} (hs : SealR s e s' r) (hm : s.mode = 1) (ho : OnceS s.F N) (hw : WinB s) (hN : s.u + (e.text.length + 28) ≤ N) :
    ∃ x, r = some x ∧ x.length = e.text.length + 28 ∧ lookM s'.m x = some e ∧ (∀ e' x', lookM s.m x' = some e' → lookM s'.m x' = some e') ∧ WinB s' ∧ s'.u ≤ s.u + (e.text.length + 28) ∧ s'.mode = 1 ∧ s'.F = s.F := by
  obtain ⟨x, h1, h2, h3, h4, h5, h6⟩ := seal_good hs ho (fun _ => hw) hN
  have h7 := hs.mode
  have hm' : s'.mode = 1 := h7.1.trans hm
  refine ⟨x, h1, h2, ?_, fun e' x' hx => ?_, h5 hm', h6, hm', h7.2.1⟩
  · rcases h3 with ⟨h, _⟩ | ⟨_, h⟩
    · omega
    · exact h
  · rcases h4 e' x' (.inr ⟨hm, hx⟩) with ⟨h, _⟩ | ⟨_, h⟩
    · omega
    · exact h
/-- What a ring's wraps are. -/
structure RgI (y : Kys) (l : List Mem) (s : BSt) (xs : List (List UInt8)) (n : Nat) : Prop where
  len : xs.length = n
  each : ∀ (i : Nat) (x : List UInt8), xs[i]? = some x → x.length = 101 ∧ ∃ e, lookM s.m x = some e ∧ entI y l i e
theorem win_u {s : BSt} (h : WinB s) (u : Nat) (hu : s.u ≤ u) : WinB { s with u := u } := fun p hp => by
  obtain ⟨v, h1, h2, h3⟩ := h p hp
  exact ⟨v, h1, Nat.le_trans h2 hu, h3⟩
theorem wraps_ideal {N : Nat} {y : Kys} (hy : OkK y) {l : List Mem} {s : BSt} (hm : s.mode = 1) (ho : OnceS s.F N) (hw : WinB s) {n : Nat} {s1 : BSt} {xs : List (List UInt8)} (h : WrapsR y l s n s1 xs) (hN : s.u + n * 133 ≤ N) :
    RgI y l s1 xs n ∧ WinB s1 ∧ s1.u ≤ s.u + n * 133 ∧ s1.mode = 1 ∧ s1.F = s.F ∧ (∀ e' x', lookM s.m x' = some e' → lookM s1.m x' = some e') := by
  induction h with
  | zero => exact ⟨⟨rfl, fun i x hx => by simp at hx⟩, hw, by omega, hm, rfl, fun _ _ h => h⟩
  | @succ i sa sb xs x hwr hse ih =>
    obtain ⟨h1, h2, h3, h4, h5, h6⟩ := ih (by omega)
    obtain ⟨k1, k2, k3, k4, k5⟩ := @entAt_state y l i sa
    have hx : (entAt y l i sa).1 = { sa with u := (entAt y l i sa).1.u } := by
      unfold entAt
      split <;> rfl
    have hu : sa.u ≤ (entAt y l i sa).1.u := by
      unfold entAt
      split <;> simp
    have hw1 : WinB (entAt y l i sa).1 := by rw [hx]; exact win_u h2 _ hu
    obtain ⟨x', e1, e2, e3, e4, e5, e6, e7, e8⟩ := seal_ideal hse (by rw [k1]; exact h4) (by rw [k2, h5]; exact ho) hw1 (by rw [entAt_text hy]; omega)
    rw [entAt_text hy] at e2 e6
    injection e1 with e1
    subst e1
    refine ⟨⟨by simp [h1.len], fun j z hj => ?_⟩, e5, by omega, e7, by rw [e8, k2, h5], fun e' x' h => e4 e' x' (by rw [k5]; exact h6 e' x' h)⟩
    rcases Nat.lt_or_ge j xs.length with hjl | hjl
    · rw [List.getElem?_append_left hjl] at hj
      obtain ⟨q1, e, q2, q3⟩ := h1.each j z hj
      exact ⟨q1, e, e4 _ _ (by rw [k5]; exact q2), q3⟩
    · have hje : j = xs.length := by
        have := (List.getElem?_eq_some_iff.1 hj).1
        simp at this
        omega
      subst hje
      rw [List.getElem?_append_right (Nat.le_refl _), Nat.sub_self] at hj
      simp only [List.getElem?_cons_zero, Option.some.injEq] at hj
      subst hj
      exact ⟨e2, _, e3, by rw [h1.len]; exact entAt_entI y l i sa⟩
/-- A ring made. -/
theorem ring_ideal {N : Nat} {y : Kys} (hy : OkK y) {l : List Mem} (hl : ∀ z ∈ l, OkM z) (h8 : l.length ≤ 8) {s s' : BSt} (hm : s.mode = 1) (ho : OnceS s.F N) (hw : WinB s) {r : Option (List (List UInt8) × List UInt8)} (h : WrapR y l s s' r) (hN : s.u + 1365 ≤ N) :
    ∃ xs d, r = some (xs, d) ∧ RgI y l s' xs 8 ∧ lookM s'.m d = some (dirE y l) ∧ d.length = 301 ∧ WinB s' ∧ s'.u ≤ s.u + 1365 ∧ s'.mode = 1 ∧ s'.F = s.F ∧ (∀ e' x', lookM s.m x' = some e' → lookM s'.m x' = some e') := by
  have hd : (dirE y l).text.length = 273 := dirL_length hl h8
  rcases h with ⟨i, s1, xs, hi, hwr, hse, rfl⟩ | ⟨s1, xs, hwr, hse, rfl⟩ | ⟨s1, xs, d, hwr, hse, rfl⟩
  · exfalso
    obtain ⟨h1, h2, h3, h4, h5, h6⟩ := wraps_ideal hy hm ho hw hwr (by omega)
    obtain ⟨k1, k2, k3, k4, k5⟩ := @entAt_state y l i s1
    have hx : (entAt y l i s1).1 = { s1 with u := (entAt y l i s1).1.u } := by
      unfold entAt
      split <;> rfl
    have hu : s1.u ≤ (entAt y l i s1).1.u := by
      unfold entAt
      split <;> simp
    have hw1 : WinB (entAt y l i s1).1 := by rw [hx]; exact win_u h2 _ hu
    obtain ⟨x', e1, _⟩ := seal_ideal hse (by rw [k1]; exact h4) (by rw [k2, h5]; exact ho) hw1 (by rw [entAt_text hy]; omega)
    cases e1
  · exfalso
    obtain ⟨h1, h2, h3, h4, h5, h6⟩ := wraps_ideal hy hm ho hw hwr (by omega)
    obtain ⟨x', e1, _⟩ := seal_ideal hse h4 (by rw [h5]; exact ho) h2 (by rw [hd]; omega)
    cases e1
  · obtain ⟨h1, h2, h3, h4, h5, h6⟩ := wraps_ideal hy hm ho hw hwr (by omega)
    obtain ⟨x', e1, e2, e3, e4, e5, e6, e7, e8⟩ := seal_ideal hse h4 (by rw [h5]; exact ho) h2 (by rw [hd]; omega)
    injection e1 with e1
    subst e1
    rw [hd] at e2 e6
    refine ⟨xs, d, rfl, ⟨h1.len, fun i x hx => ?_⟩, e3, e2, e5, by omega, e7, by rw [e8, h5], fun e' x' h => e4 e' x' (h6 e' x' h)⟩
    obtain ⟨q1, e, q2, q3⟩ := h1.each i x hx
    exact ⟨q1, e, e4 _ _ q2, q3⟩
theorem RgI.more {y : Kys} {l : List Mem} {s s' : BSt} {xs : List (List UInt8)} {n : Nat} (h : RgI y l s xs n) (hm : ∀ e' x', lookM s.m x' = some e' → lookM s'.m x' = some e') : RgI y l s' xs n :=
  ⟨h.len, fun i x hx => by
    obtain ⟨q1, e, q2, q3⟩ := h.each i x hx
    exact ⟨q1, e, hm _ _ q2, q3⟩⟩
/-- From the i-th wrap on: a key that is no member's from there learns nothing. -/
theorem unwrap_none {y : Kys} {l : List Mem} {s : BSt} {xs : List (List UInt8)} {n : Nat} (h : RgI y l s xs n) (hm : s.mode = 1) (k : List UInt8) (i : Nat) (hk : ∀ j z, i ≤ j → l[j]? = some z → z.k ≠ k) : unwrapL s k (xs.drop i) = (kysZ, 13) := by
  have key : ∀ q i, n - i = q → (∀ j z, i ≤ j → l[j]? = some z → z.k ≠ k) → unwrapL s k (xs.drop i) = (kysZ, 13) := by
    intro q
    induction q with
    | zero =>
      intro i hi _
      rw [List.drop_of_length_le (by rw [h.len]; omega)]
      rfl
    | succ q ih =>
      intro i hi hk
      obtain ⟨x, hx⟩ : ∃ x, xs[i]? = some x := ⟨_, List.getElem?_eq_getElem (by rw [h.len]; omega)⟩
      have hr := ih (i + 1) (by omega) (fun j z hj => hk j z (by omega))
      obtain ⟨_, e, h1, h2⟩ := h.each i x hx
      rw [unwrapL_drop hx, hr]
      have ho : openS s k wrapB x = if e.key = k ∧ e.beside = wrapB then some e.text else none := by rw [openS, if_neg (by omega), h1]
      rw [ho]
      unfold entI at h2
      split at h2
      · rename_i z hz
        rw [if_neg (fun hh => hk i z (Nat.le_refl _) hz (by rw [← hh.1, h2]))]
      · by_cases hh : e.key = k ∧ e.beside = wrapB
        · rw [if_pos hh, h2.2]
          simp only
          rw [learnB_full]
          rfl
        · rw [if_neg hh]
  exact key _ i rfl hk
/-- A member's key learns what was wrapped for it. -/
theorem unwrap_mem {y : Kys} (hy : OkK y) {l : List Mem} {s : BSt} {xs : List (List UInt8)} {n : Nat} (h : RgI y l s xs n) (hm : s.mode = 1) (j : Nat) (hj : j < n) (z : Mem) (hz : l[j]? = some z) (hd : ∀ i z', i < j → l[i]? = some z' → z'.k ≠ z.k) : unwrapL s z.k xs = (seenK y z.o, 0) := by
  have key : ∀ q i, j - i = q → i ≤ j → unwrapL s z.k (xs.drop i) = (seenK y z.o, 0) := by
    intro q
    induction q with
    | zero =>
      intro i hi hij
      obtain rfl : i = j := by omega
      obtain ⟨x, hx⟩ : ∃ x, xs[i]? = some x := ⟨_, List.getElem?_eq_getElem (by rw [h.len]; exact hj)⟩
      obtain ⟨_, e, h1, h2⟩ := h.each i x hx
      unfold entI at h2
      rw [hz] at h2
      have h2 : e = ⟨z.k, wrapB, textL y z.o⟩ := h2
      have ho : openS s z.k wrapB x = some (textL y z.o) := by rw [openS, if_neg (by omega), h1, h2]; simp
      rw [unwrapL_drop hx, ho]
      simp only
      rw [learnB_text hy, learnK_text hy]
      rfl
    | succ q ih =>
      intro i hi hij
      obtain ⟨x, hx⟩ : ∃ x, xs[i]? = some x := ⟨_, List.getElem?_eq_getElem (by rw [h.len]; omega)⟩
      obtain ⟨_, e, h1, h2⟩ := h.each i x hx
      have hl : i < l.length := by have := (List.getElem?_eq_some_iff.1 hz).1; omega
      unfold entI at h2
      rw [List.getElem?_eq_getElem hl] at h2
      have h2 : e = ⟨l[i].k, wrapB, textL y l[i].o⟩ := h2
      have hne := hd i _ (by omega) (List.getElem?_eq_getElem hl)
      have ho : openS s z.k wrapB x = none := by
        rw [openS, if_neg (by omega), h1, h2]
        simp only
        rw [if_neg (fun hh => hne hh.1)]
      rw [unwrapL_drop hx, ho]
      exact ih (i + 1) (by omega) (by omega)
  have := key j 0 (by omega) (by omega)
  rwa [List.drop_zero] at this
/-- No two members of a ring have one key. -/
theorem check_keys {l : List Mem} (h : checkL l = true) (i j : Nat) (z z' : Mem) (hij : i < j) (hi : l[i]? = some z') (hj : l[j]? = some z) : z'.k ≠ z.k ∧ z'.n ≠ z.n := by
  simp only [checkL, Bool.and_eq_true] at h
  have h1 := h.2
  simp only [okFrom, List.all_eq_true, List.mem_range, Bool.or_eq_true, decide_eq_true_eq] at h1
  have h2 := h1 j (List.getElem?_eq_some_iff.1 hj).1
  rw [hj] at h2
  simp only [okAt, Bool.and_eq_true, Bool.not_eq_true', List.any_eq_false] at h2
  have h3 : okAt l j z = true := by
    rcases h2 with h2 | h2
    · omega
    · simpa [okAt] using h2
  simp only [okAt, Bool.and_eq_true, Bool.not_eq_true', List.any_eq_false] at h3
  have h4 := h3.2 z' (List.mem_of_getElem? (by rw [List.getElem?_take, if_pos hij, hi]))
  simp only [sameM, Bool.or_eq_true, decide_eq_true_eq, not_or] at h4
  exact ⟨h4.2, h4.1⟩
theorem wraps_texts {y : Kys} (hy : OkK y) {l : List Mem} {s : BSt} {n : Nat} (hn : 273 ≤ n) (h0 : ∀ p ∈ s.m, s.mode = 1 → p.2.text.length ≤ n) {i : Nat} {s1 : BSt} {xs : List (List UInt8)} (h : WrapsR y l s i s1 xs) : ∀ p ∈ s1.m, s1.mode = 1 → p.2.text.length ≤ n := by
  induction h with
  | zero => exact h0
  | @succ i sa sb xs x _ hse ih =>
    obtain ⟨k1, _, _, _, k5⟩ := @entAt_state y l i sa
    exact sealR_texts hse n (by rw [k1, k5]; exact ih) (by rw [entAt_text hy]; omega)
theorem wrap_texts {y : Kys} (hy : OkK y) {l : List Mem} (hl : ∀ z ∈ l, OkM z) (h8 : l.length ≤ 8) {s s' : BSt} {n : Nat} (hn : 273 ≤ n) (h0 : ∀ p ∈ s.m, s.mode = 1 → p.2.text.length ≤ n) {r : Option (List (List UInt8) × List UInt8)} (h : WrapR y l s s' r) : ∀ p ∈ s'.m, s'.mode = 1 → p.2.text.length ≤ n := by
  have hd : (dirE y l).text.length ≤ n := by rw [show (dirE y l).text = dirL l from rfl, dirL_length hl h8]; exact hn
  rcases h with ⟨i, s1, xs, hi, hwr, hse, rfl⟩ | ⟨s1, xs, hwr, hse, rfl⟩ | ⟨s1, xs, d, hwr, hse, rfl⟩
  · obtain ⟨k1, _, _, _, k5⟩ := @entAt_state y l i s1
    exact sealR_texts hse n (by rw [k1, k5]; exact wraps_texts hy hn h0 hwr) (by rw [entAt_text hy]; omega)
  · exact sealR_texts hse n (wraps_texts hy hn h0 hwr) hd
  · exact sealR_texts hse n (wraps_texts hy hn h0 hwr) hd
/-- What wrap leaves of a box. -/
theorem wrap_bounds {y : Kys} (hy : OkK y) {l : List Mem} (hl : ∀ z ∈ l, OkM z) (h8 : l.length ≤ 8) {s s' : BSt} {r : Option (List (List UInt8) × List UInt8)} (h : WrapR y l s s' r) : s'.mode = s.mode ∧ s'.F = s.F ∧ s'.u ≤ s.u + 9200 ∧ s'.n ≤ s.n + 9 ∧ s'.m.length ≤ s.m.length + 9 := by
  have hd : (dirE y l).text.length = 273 := dirL_length hl h8
  rcases h with ⟨i, s1, xs, hi, hwr, hse, rfl⟩ | ⟨s1, xs, hwr, hse, rfl⟩ | ⟨s1, xs, d, hwr, hse, rfl⟩
  · obtain ⟨k1, k2, k3, k4, k5⟩ := @entAt_state y l i s1
    obtain ⟨b1, b2, b3, b4, b5⟩ := hwr.bounds hy
    obtain ⟨c1, c2, c3, c4, c5⟩ := hse.mode
    rw [entAt_text hy] at c3
    rw [k1] at c1
    rw [k2] at c2
    rw [k5] at c5
    exact ⟨c1.trans b1, c2.trans b2, by omega, by omega, by omega⟩
  · obtain ⟨b1, b2, b3, b4, b5⟩ := hwr.bounds hy
    obtain ⟨c1, c2, c3, c4, c5⟩ := hse.mode
    rw [hd] at c3
    exact ⟨c1.trans b1, c2.trans b2, by omega, by omega, by omega⟩
  · obtain ⟨b1, b2, b3, b4, b5⟩ := hwr.bounds hy
    obtain ⟨c1, c2, c3, c4, c5⟩ := hse.mode
    rw [hd] at c3
    exact ⟨c1.trans b1, c2.trans b2, by omega, by omega, by omega⟩
end Go.Proofs.Ytlocplkjokoknaa

/- Two keys of a ring are told to be the same just if they are. No condition but those each theorem states. -/
namespace Go.Proofs.Ytlocplkjokoknaa
set_option linter.unusedVariables false
set_option linter.unusedSimpArgs false
open Go.RowKit

theorem eq_kysD (y y' : Kys) (hy : OkK y) (hy' : OkK y') (W : World) (dd : Nat) :
    (Op.equalIn (dd + 3) 37 (.agg (RowK y).toArray) (.agg (RowK y').toArray)).run Try.prog W = .ok (decide (y.e = y'.e ∧ y.k = y'.k ∧ y.o = y'.o ∧ y.w = y'.w)) W := by
  have hfs : (Try.prog.fieldsOf 37).toList.map (fun f => (f.name == "_", f.type, f.offset)) = [(false, 33, 0), (false, 35, 1), (false, 35, 33), (false, 4, 65)] := by kernel_rfl
  have ht : Try.prog.underlying 37 = some (.struct (Try.prog.fieldsOf 37)) := by kernel_rfl
  have hp : Try.prog.stoodInHeld 37 = false := by kernel_rfl
  rw [run_equalIn_struct W (dd + 2) _ _ _ ht hp]
  clear ht hp
  generalize (Try.prog.fieldsOf 37).toList = fs at hfs
  obtain ⟨f1, f2, f3, f4, rfl⟩ : ∃ f1 f2 f3 f4, fs = [f1, f2, f3, f4] := by
    rcases fs with _ | ⟨f1, _ | ⟨f2, _ | ⟨f3, _ | ⟨f4, _ | ⟨f5, fs⟩⟩⟩⟩⟩ <;> simp at hfs
    exact ⟨f1, f2, f3, f4, rfl⟩
  simp only [List.map_cons, List.map_nil, List.cons.injEq, Prod.mk.injEq, and_true] at hfs
  obtain ⟨⟨n1, t1, o1⟩, ⟨n2, t2, o2⟩, ⟨n3, t3, o3⟩, n4, t4, o4⟩ := hfs
  have n1 : f1.name ≠ "_" := by simpa using n1
  have n2 : f2.name ≠ "_" := by simpa using n2
  have n3 : f3.name ≠ "_" := by simpa using n3
  have n4 : f4.name ≠ "_" := by simpa using n4
  have hsz : (Try.prog.info? 35).map (·.size) = some 32 := by kernel_rfl
  obtain ⟨i, hi, hsz⟩ := Option.map_eq_some_iff.1 hsz
  have p1 : ∀ y : Kys, (part 33 (RowK y).toArray 0).run Try.prog W = .ok (.int .u64 (y.e.toNat : Int)) W := by
    intro y
    have hc : (RowK y).toArray[0]? = some (.int .u64 (y.e.toNat : Int)) := rfl
    simp only [part, isAgg, Sem.run_bind, run_underlying Try.underlying33, Result.andThen_ok, Sem.run_pure, hc]
    simp
  have p2 : ∀ y : Kys, OkK y → (part 35 (RowK y).toArray 1).run Try.prog W = .ok (.agg (W8 y.k)) W := by
    intro y hy
    have e1 : (List.take 32 (RowK y).tail).toArray = W8 y.k := by
      rw [RowK, List.tail_cons, List.take_append_of_le_length (by rw [B8_length, hy.1]; exact Nat.le_refl _), List.take_of_length_le (by rw [B8_length, hy.1]; exact Nat.le_refl _)]
      rfl
    simp only [part, isAgg, Sem.run_bind, run_underlying Try.underlying35, Result.andThen_ok, Sem.run_pure, sizeOf, typeInfo, hi, hsz]
    simp [hsz, hi]
    exact e1
  have p3 : ∀ y : Kys, OkK y → (part 35 (RowK y).toArray 33).run Try.prog W = .ok (.agg (W8 y.o)) W := by
    intro y hy
    have e1 : (List.take 32 (List.drop 33 (RowK y))).toArray = W8 y.o := by
      have l1 : (Value.int .u64 (y.e.toNat : Int) :: B8 y.k).length = 33 := by simp [B8_length, hy.1]
      rw [show RowK y = (Value.int .u64 (y.e.toNat : Int) :: B8 y.k) ++ (B8 y.o ++ [.bool y.w]) from rfl, List.drop_left' l1, List.take_append_of_le_length (by rw [B8_length, hy.2]; exact Nat.le_refl _), List.take_of_length_le (by rw [B8_length, hy.2]; exact Nat.le_refl _)]
      rfl
    simp only [part, isAgg, Sem.run_bind, run_underlying Try.underlying35, Result.andThen_ok, Sem.run_pure, sizeOf, typeInfo, hi, hsz]
    simp [hsz, hi]
    exact e1
  have p4 : ∀ y : Kys, OkK y → (part 4 (RowK y).toArray 65).run Try.prog W = .ok (.bool y.w) W := by
    intro y hy
    have hc := rowK_w hy
    simp only [part, isAgg, Sem.run_bind, run_underlying Try.underlying4, Result.andThen_ok, Sem.run_pure, hc]
    simp
  have q1 := run_equalIn_int (P := Try.prog) W (dd + 1) 33 .u64 .u64 (y.e.toNat : Int) (y'.e.toNat : Int) Try.underlying33
  have q2 := eq_arr2 W 35 5 32 Try.underlying35 Try.underlying5 (by kernel_rfl) y.k y'.k hy.1 hy'.1 dd
  have q3 := eq_arr2 W 35 5 32 Try.underlying35 Try.underlying5 (by kernel_rfl) y.o y'.o hy.2 hy'.2 dd
  have q4 := run_equalIn_bool (P := Try.prog) W (dd + 1) 4 y.w y'.w Try.underlying4
  have a1 := p1 y
  have a2 := p1 y'
  have b1 := p2 y hy
  have b2 := p2 y' hy'
  have c1 := p3 y hy
  have c2 := p3 y' hy'
  have d1 := p4 y hy
  have d2 := p4 y' hy'
  clear p1 p2 p3 p4 hsz hi
  have ee : ((y.e.toNat : Int) == (y'.e.toNat : Int)) = decide (y.e = y'.e) := by
    by_cases h : y.e = y'.e
    · rw [h]; simp
    · have : y.e.toNat ≠ y'.e.toNat := fun hh => h (UInt64.toNat_inj.1 hh)
      rw [decide_eq_false h, beq_eq_false_iff_ne]
      omega
  rw [ee] at q1
  unfold Op.eqFields
  rw [if_pos n1, t1, o1, Sem.run_bind, a1, Result.andThen_ok, Sem.run_bind, a2, Result.andThen_ok, Sem.run_bind, q1, Result.andThen_ok]
  by_cases h1 : y.e = y'.e
  · rw [decide_eq_true h1]
    unfold Op.eqFields
    simp only [Bool.not_true, Bool.false_eq_true, if_false]
    rw [if_pos n2, t2, o2, Sem.run_bind, b1, Result.andThen_ok, Sem.run_bind, b2, Result.andThen_ok, Sem.run_bind, q2, Result.andThen_ok]
    by_cases h2 : y.k = y'.k
    · rw [decide_eq_true h2]
      unfold Op.eqFields
      simp only [Bool.not_true, Bool.false_eq_true, if_false]
      rw [if_pos n3, t3, o3, Sem.run_bind, c1, Result.andThen_ok, Sem.run_bind, c2, Result.andThen_ok, Sem.run_bind, q3, Result.andThen_ok]
      by_cases h3 : y.o = y'.o
      · rw [decide_eq_true h3]
        unfold Op.eqFields
        simp only [Bool.not_true, Bool.false_eq_true, if_false]
        rw [if_pos n4, t4, o4, Sem.run_bind, d1, Result.andThen_ok, Sem.run_bind, d2, Result.andThen_ok, Sem.run_bind, q4, Result.andThen_ok]
        unfold Op.eqFields
        by_cases h4 : y.w = y'.w <;> simp [h1, h2, h3, h4]
      · rw [decide_eq_false h3]
        simp [h3]
    · rw [decide_eq_false h2]
      simp [h2]
  · rw [decide_eq_false h1]
    simp [h1]
theorem kys_ext (y y' : Kys) : (y.e = y'.e ∧ y.k = y'.k ∧ y.o = y'.o ∧ y.w = y'.w) ↔ y = y' := by
  cases y
  cases y'
  simp
instance : DecidableEq Kys := fun y y' => decidable_of_iff _ (kys_ext y y')
theorem run_eq_kys {o : Oper} {a : Act} (t2 : TypeId) (x z : Operand) (ho : o.op = .binOp .eql 37 x z t2) (y y' : Kys) (hy : OkK y) (hy' : OkK y') (hx : a.eval x = .agg (RowK y).toArray) (hz : a.eval z = .agg (RowK y').toArray) (W : World) :
    (execOp a.eval o).run Try.prog W = .ok (.value (.bool (decide (y = y')))) W := by
  have hm : Try.prog.eqGuardType Try.prog.depth 37 = false := by kernel_rfl
  have h : (Op.equalIn 10000 37 (.agg (RowK y).toArray) (.agg (RowK y').toArray)).run Try.prog W = .ok (decide (y = y')) W :=
    (eq_kysD y y' hy hy' W 9997).trans (congrArg (fun b => Result.ok b W) (decide_eq_decide.2 (kys_ext y y')))
  unfold execOp
  simp only [ho, hx, hz, Sem.run_bind, Sem.run_pure, run_eql_struct, run_eqGuard_agg (w := W) _ _ x z _ _ hm, h, Result.andThen_ok]
end Go.Proofs.Ytlocplkjokoknaa

/- Put: a ring's bytes. No condition but those each theorem states. -/
namespace Go.Proofs.Ytlocplkjokoknaa
set_option linter.unusedVariables false
set_option linter.unusedSimpArgs false
open Go.RowKit
attribute [local go_sem ↓] Go.wp_at_zero Go.wp_at_succ

theorem flat_len (ls : List (List UInt8)) (j : Nat) : (ls.take j).flatten.length ≤ ls.flatten.length := by
  conv => rhs; rw [← List.take_append_drop j ls]
  rw [List.flatten_append, List.length_append]
  omega
set_option maxRecDepth 100000 in
set_option maxHeartbeats 4000000 in
theorem put_ring (w : World) (v : Value) (xs : List (List UInt8)) (d : List UInt8) (base : Nat) (hv : RgB base w v xs d) (hl : xs.length ≤ 1000) (hf : xs.flatten.length ≤ 1000000) (hd : d.length ≤ 1000000) :
    Calls Try.prog 10 #[v] w fun e w' => ∃ u, e = .returned u ∧ OwnB w' w.heap.size u (xs.flatten ++ d) ∧ Below w.heap.size w w' := by
  have TB := Lib.hid (show ByteT Try.prog from ⟨Try.underlying22, by kernel_rfl⟩)
  obtain ⟨A1, c1, vs, dv, rfl, hc1, hvl, hrv, hA1, hxv, hdv⟩ := hv
  obtain ⟨Ad, cd, rfl, hcd, hrd, _⟩ := hdv
  obtain ⟨q, hq⟩ : ∃ q, q = xs.length := ⟨_, rfl⟩
  obtain ⟨nd, hnd⟩ : ∃ nd, nd = d.length := ⟨_, rfl⟩
  have RV := Lib.hid hrv
  have XV := Lib.hid hxv
  have RDD := Lib.hid hrd
  have FL := Lib.hid hf
  obtain ⟨rc, hrc⟩ : ∃ rc : Array Value, rc = #[.slice A1 xs.length c1, .slice Ad d.length cd] := ⟨_, rfl⟩
  rw [← hrc]
  have IR := Lib.hid (show (Try.prog.info? 32).map (·.size) = some rc.size by rw [hrc]; exact info_ring)
  have R0 := Lib.hid (show rc[0]? = some (.slice A1 q c1) by rw [hrc, hq]; rfl)
  have R1 := Lib.hid (show rc[1]? = some (.slice Ad nd cd) by rw [hrc, hnd]; rfl)
  have Q1 := Lib.hid hq.symm
  have ND := Lib.hid hnd.symm
  have NDB := Lib.hid (show nd ≤ 1000000 by omega)
  have QB := Lib.hid (show q ≤ 1000 by omega)
  have b0 : (q : Int) ≤ 1000 := by omega
  obtain ⟨X, hX⟩ : ∃ X, X = xs.flatten ++ d := ⟨_, rfl⟩
  rw [← hX]
  have XE := Lib.hid hX
  clear hc1 hvl hrv hA1 hxv hcd hrd hrc hq hnd hl hf hd hX
  go_enter Try.func10, Try.ntmps10
  go_upto_region 1 with fail
  generalize hM4 : Array.size (World.heap w) = M4
  generalize hwa : World.alloc w _ = w3
  have R4 := Lib.hid (show w3.heap[M4]? = some (.cells rc 32 (0, 0)) by rw [← hwa]; exact ha_new _ _ _ hM4.symm)
  have B3 := Lib.hid (show Below w.heap.size w w3 by rw [← hwa]; exact below_new _ _)
  have ME := Lib.hid hM4
  clear hwa hM4
  go_upto_region 2 with fail
  refine wp_region_list ?_
  simp only [List.toList_toArray]
  refine wpList_val (v := ?_) (by rfl) ?_ ?_
  rotate_left
  · go_simp
    with_reducible rfl
  simp only [Act.put, List.setIfInBounds_toArray, List.set_cons_zero, List.set_cons_succ]
  refine wpList_val (by rfl) (run_cell 30 (.tmp 6) rfl _ Try.underlying30 rfl rfl (row_cell R4.out 0 R0.out)) ?_
  simp only [Act.put, List.setIfInBounds_toArray, List.set_cons_zero, List.set_cons_succ]
  refine wpList_val (v := ?_) (by rfl) ?_ ?_
  rotate_left
  · go_simp
    with_reducible rfl
  simp only [Act.put, List.setIfInBounds_toArray, List.set_cons_zero, List.set_cons_succ]
  refine wpList_val (v := ?_) (by rfl) ?_ ?_
  rotate_left
  · go_simp
    with_reducible rfl
  simp only [Act.put, List.setIfInBounds_toArray, List.set_cons_zero, List.set_cons_succ]
  go_wp2_with fail
  go_loopw [3, 9] (fun u i wr => ∃ j : Nat, j ≤ q ∧ i = .int .i64 (j : Int) ∧ OwnB wr w3.heap.size u (xs.take j).flatten ∧ Below w3.heap.size w3 wr) (fun _ i _ => q - (intOf i).toNat)
  case atStart => exact ⟨0, Nat.zero_le _, rfl, OwnB.nil _ _, Below.refl _ _⟩
  case round =>
    obtain ⟨j, hj, rfl, ho, hb⟩ := hrel
    have J := Lib.hid hj
    have O := Lib.hid ho
    have Z := Lib.hid hb
    clear hj ho hb
    obtain ⟨wp, rfl⟩ : ∃ wp : World, wp = wr := ⟨_, rfl⟩
    have BP := Lib.hid (show Below w.heap.size w wp from B3.out.trans (Z.out.mono B3.out.size))
    have R4P := Lib.hid (below_block Z.out (row_lt R4.out) R4.out)
    by_cases hlt : j < q
    · have hD : decide ((j : Int) < (q : Int)) = true := by simp; omega
      obtain ⟨x, hx⟩ : ∃ x, xs[j]? = some x := ⟨_, List.getElem?_eq_getElem (by rw [Q1.out]; exact hlt)⟩
      obtain ⟨u, hu, hsl⟩ := XV.out j x hx
      obtain ⟨Ax, cx, rfl, hcx, hrx, _⟩ := hsl
      obtain ⟨b1, o1, hA1, hcell⟩ := RV.out j _ hu
      obtain ⟨m, hm⟩ : ∃ m, m = x.length := ⟨_, rfl⟩
      rw [← hm] at hcell hcx
      have TK := Lib.hid (show (xs.take (j + 1)).flatten = (xs.take j).flatten ++ x by rw [List.take_add_one, hx]; simp)
      have TL := Lib.hid (show (xs.take j).flatten.length + m ≤ 1000000 by
        have h1 := flat_len xs (j + 1)
        rw [List.take_add_one, hx] at h1
        simp only [Option.toList_some, List.flatten_append, List.length_append, List.flatten_cons, List.flatten_nil, List.append_nil] at h1
        have := FL.out
        omega)
      have CX := Lib.hid (cell_same hcell (BP.out.block b1 (cell_lt hcell)))
      have RX := Lib.hid (hrx.keep BP.out)
      have XL := Lib.hid hm.symm
      have AE := Lib.hid hA1
      have JQ := Lib.hid hlt
      have jb : (j : Int) ≤ 999 := by have := QB.out; omega
      clear hx hu hcx hrx hA1 hcell hm hlt
      go_upto_region 4 with fail
      refine wp_region_list ?_
      simp only [List.toList_toArray]
      refine wpList_val (by rfl) (run_iaddr_slk 30 (.tmp 7) (.tmp 9) rfl 22 Try.underlying30 1 (by kernel_rfl) b1 o1 q c1 j JQ.out .i64 _ rfl (by rw [← AE.out]; rfl) rfl _) ?_
      simp only [Act.put, List.setIfInBounds_toArray, List.set_cons_zero, List.set_cons_succ]
      refine wpList_val (by rfl) (run_cell 22 (.tmp 11) rfl _ Try.underlying22 rfl rfl (by rw [Nat.mul_one]; exact CX.out)) ?_
      simp only [Act.put, List.setIfInBounds_toArray, List.set_cons_zero, List.set_cons_succ]
      go_upto_region 5 with fail
      refine wp_region_list ?_
      simp only [List.toList_toArray]
      refine wpList_val (v := ?_) (by rfl) ?_ ?_
      rotate_left
      · go_simp
        with_reducible rfl
      simp only [Act.put, List.setIfInBounds_toArray, List.set_cons_zero, List.set_cons_succ]
      refine wpList_val (v := ?_) (by rfl) ?_ ?_
      rotate_left
      · go_simp
        with_reducible rfl
      simp only [Act.put, List.setIfInBounds_toArray, List.set_cons_zero, List.set_cons_succ]
      refine wpList_op (by rfl) (fun K hK => ?_)
      refine app_wp TB.out (.tmp 13) (.tmp 14) rfl w3.heap.size _ (xs.take j).flatten x Ax m cx rfl rfl XL.out O.out RX.out Z.out.size (by have := TL.out; omega) ?_
      intro v4 w4 ho hg _
      have Z := Lib.hid (below_own Z.out O.out hg)
      have O := Lib.hid (show OwnB w4 w3.heap.size v4 (xs.take (j + 1)).flatten by rw [TK.out]; exact ho)
      clear ho hg
      refine hK.out _ _ ?_
      clear hK K
      simp only [Act.put, List.setIfInBounds_toArray, List.set_cons_zero, List.set_cons_succ]
      go_wp2_with fail
      go_roundw
      case rel => exact ⟨j + 1, by have := JQ.out; omega, by go_num, O.out, Z.out⟩
      case measure => have := JQ.out; simp [intOf]; omega
    · have hD : decide ((j : Int) < (q : Int)) = false := by simp; omega
      have O := Lib.hid (show OwnB wp w3.heap.size _ xs.flatten by have h1 := O.out; rwa [List.take_of_length_le (by rw [Q1.out]; omega)] at h1)
      go_upto_region 7 with fail
      refine wp_region_list ?_
      simp only [List.toList_toArray]
      refine wpList_val (v := ?_) (by rfl) ?_ ?_
      rotate_left
      · go_simp
        with_reducible rfl
      simp only [Act.put, List.setIfInBounds_toArray, List.set_cons_zero, List.set_cons_succ]
      refine wpList_val (v := ?_) (by rfl) ?_ ?_
      rotate_left
      · go_simp
        with_reducible rfl
      simp only [Act.put, List.setIfInBounds_toArray, List.set_cons_zero, List.set_cons_succ]
      refine wpList_val (by rfl) (run_cell 22 (.tmp 18) rfl _ Try.underlying22 rfl rfl (row_cell R4P.out 1 R1.out)) ?_
      simp only [Act.put, List.setIfInBounds_toArray, List.set_cons_zero, List.set_cons_succ]
      refine wpList_op (by rfl) (fun K hK => ?_)
      refine app_wp TB.out (.tmp 17) (.tmp 19) rfl w3.heap.size _ xs.flatten d Ad nd cd rfl rfl ND.out O.out (RDD.out.keep BP.out) Z.out.size (by have := FL.out; have := NDB.out; omega) ?_
      intro v4 w4 ho hg _
      have Z := Lib.hid (below_own Z.out O.out hg)
      have O := Lib.hid (show OwnB w4 w3.heap.size v4 X by rw [XE.out]; exact ho)
      clear ho hg
      refine hK.out _ _ ?_
      clear hK K
      simp only [Act.put, List.setIfInBounds_toArray, List.set_cons_zero, List.set_cons_succ]
      go_wp2_with fail
      go_ret
      exact ⟨_, rfl, O.out.mono B3.out.size, B3.out.trans (Z.out.mono B3.out.size)⟩
end Go.Proofs.Ytlocplkjokoknaa

/- What a source of the bytes of '' tells at first: no window of 3 bytes stands twice in it. No condition. -/
namespace Go.Proofs.Ytlocplkjokoknaa
set_option linter.unusedVariables false
set_option linter.unusedSimpArgs false
set_option maxRecDepth 100000
def nilF : List UInt8 := []
def nilS : List UInt8 := [227, 176, 196, 66, 152, 252, 28, 20, 154, 251, 244, 200, 153, 111, 185, 36, 39, 174, 65, 228, 100, 155, 147, 76, 164, 149, 153, 27, 120, 82, 184, 85]
theorem nilS_eq : hashL nilF = nilS := by decide +kernel
def nilB0 : List (List UInt8) := [[92, 93, 66, 220, 243, 159, 113, 192, 34, 108, 167, 32, 216, 213, 24, 219, 97, 91, 87, 115, 240, 56, 229, 228, 145, 150, 63, 111, 71, 98, 27, 189], [72, 242, 176, 23, 37, 133, 181, 117, 19, 41, 110, 181, 167, 210, 35, 145, 219, 126, 16, 166, 109, 230, 246, 211, 184, 15, 21, 87, 84, 136, 96, 36], [239, 118, 49, 110, 33, 192, 194, 80, 245, 49, 130, 214, 77, 144, 198, 115, 152, 255, 75, 212, 76, 56, 94, 13, 227, 127, 157, 109, 75, 78, 197, 89], [19, 119, 130, 208, 78, 213, 141, 28, 89, 23, 145, 186, 166, 43, 249, 200, 241, 37, 11, 24, 85, 205, 99, 225, 177, 101, 7, 208, 185, 251, 81, 237], [91, 61, 202, 84, 238, 46, 42, 220, 209, 126, 194, 209, 127, 53, 76, 70, 20, 29, 137, 114, 114, 167, 125, 74, 35, 201, 205, 178, 173, 0, 128, 253], [213, 183, 150, 212, 102, 56, 53, 47, 53, 228, 87, 31, 118, 184, 10, 35, 37, 190, 114, 100, 177, 238, 133, 16, 10, 105, 161, 3, 22, 202, 238, 83]]
theorem nilB0_eq : (List.range 6).map (fun j => hashL (nilS ++ beL 8 (0 + j))) = nilB0 := by decide +kernel
def nilB1 : List (List UInt8) := [[101, 62, 34, 25, 7, 35, 36, 52, 12, 11, 195, 222, 103, 110, 196, 165, 212, 231, 178, 73, 240, 169, 31, 158, 205, 139, 59, 25, 143, 253, 20, 129], [129, 151, 133, 217, 83, 244, 140, 32, 54, 64, 35, 168, 52, 117, 76, 180, 34, 237, 88, 48, 111, 209, 31, 214, 166, 83, 110, 140, 215, 25, 85, 166], [125, 27, 192, 222, 117, 189, 67, 179, 233, 206, 190, 202, 139, 129, 10, 227, 240, 84, 253, 14, 101, 109, 56, 94, 46, 141, 160, 42, 99, 97, 59, 121], [230, 103, 70, 169, 227, 218, 117, 31, 184, 72, 199, 135, 12, 86, 160, 142, 166, 61, 234, 213, 81, 15, 40, 243, 1, 125, 236, 7, 186, 171, 227, 0], [55, 138, 47, 74, 147, 122, 128, 38, 103, 89, 62, 206, 73, 138, 10, 40, 161, 217, 45, 10, 2, 244, 160, 254, 202, 130, 237, 142, 170, 18, 52, 160], [168, 54, 87, 206, 128, 182, 223, 52, 252, 226, 82, 79, 203, 161, 233, 10, 179, 223, 113, 199, 210, 239, 24, 236, 182, 20, 59, 185, 157, 204, 68, 25]]
theorem nilB1_eq : (List.range 6).map (fun j => hashL (nilS ++ beL 8 (6 + j))) = nilB1 := by decide +kernel
def nilB2 : List (List UInt8) := [[29, 183, 150, 74, 121, 221, 134, 41, 115, 224, 174, 34, 80, 3, 86, 114, 174, 60, 233, 208, 87, 41, 63, 210, 223, 199, 112, 98, 239, 103, 88, 161], [237, 53, 199, 104, 160, 176, 208, 71, 36, 155, 22, 205, 85, 12, 178, 254, 113, 108, 42, 221, 217, 58, 161, 171, 82, 34, 180, 163, 173, 25, 203, 61], [110, 115, 4, 145, 92, 42, 176, 223, 68, 13, 171, 206, 188, 179, 190, 115, 96, 160, 167, 98, 160, 102, 150, 55, 62, 31, 94, 76, 121, 199, 226, 58], [219, 240, 152, 215, 84, 138, 208, 142, 95, 213, 138, 203, 134, 39, 135, 230, 107, 140, 119, 210, 216, 216, 219, 46, 70, 89, 203, 85, 102, 221, 95, 83], [185, 144, 183, 187, 229, 121, 230, 147, 117, 230, 194, 29, 76, 119, 218, 242, 110, 78, 208, 218, 255, 145, 18, 184, 70, 25, 188, 147, 180, 18, 130, 242], [196, 173, 83, 34, 167, 132, 202, 128, 6, 231, 123, 186, 33, 89, 254, 245, 115, 23, 153, 221, 255, 1, 80, 247, 108, 209, 56, 243, 27, 88, 81, 234]]
theorem nilB2_eq : (List.range 6).map (fun j => hashL (nilS ++ beL 8 (12 + j))) = nilB2 := by decide +kernel
def nilB3 : List (List UInt8) := [[52, 135, 185, 210, 98, 165, 54, 25, 202, 239, 144, 7, 144, 254, 57, 150, 253, 245, 197, 52, 7, 127, 154, 165, 85, 49, 13, 41, 73, 249, 17, 122], [94, 24, 46, 176, 104, 23, 227, 121, 192, 102, 169, 179, 8, 20, 230, 151, 212, 117, 111, 180, 107, 93, 93, 140, 92, 0, 163, 224, 10, 0, 116, 52], [246, 119, 229, 254, 241, 253, 89, 21, 212, 187, 21, 23, 31, 23, 26, 138, 7, 78, 202, 141, 16, 252, 117, 96, 63, 218, 231, 54, 126, 249, 21, 233], [67, 63, 166, 245, 112, 103, 124, 68, 152, 115, 126, 54, 176, 212, 68, 97, 254, 38, 13, 87, 148, 226, 178, 110, 92, 101, 110, 198, 66, 170, 87, 152], [59, 19, 1, 41, 66, 0, 117, 95, 11, 16, 208, 245, 52, 179, 150, 100, 175, 148, 106, 50, 70, 171, 249, 62, 76, 49, 84, 122, 103, 66, 76, 220], [39, 221, 21, 0, 134, 191, 243, 82, 115, 239, 53, 210, 251, 41, 242, 204, 217, 193, 241, 132, 145, 196, 146, 177, 144, 237, 53, 35, 206, 147, 134, 58]]
theorem nilB3_eq : (List.range 6).map (fun j => hashL (nilS ++ beL 8 (18 + j))) = nilB3 := by decide +kernel
def nilB4 : List (List UInt8) := [[93, 92, 230, 254, 44, 199, 94, 41, 110, 132, 161, 238, 2, 208, 179, 0, 74, 157, 235, 13, 82, 69, 200, 180, 0, 11, 129, 156, 52, 44, 118, 41], [242, 196, 21, 19, 226, 124, 63, 187, 7, 85, 115, 213, 170, 49, 153, 70, 242, 223, 200, 52, 71, 59, 244, 140, 185, 199, 218, 20, 116, 242, 230, 168], [122, 162, 97, 108, 168, 214, 203, 58, 252, 128, 213, 182, 223, 154, 186, 35, 132, 237, 87, 156, 50, 151, 45, 222, 142, 147, 233, 105, 38, 52, 190, 100], [88, 141, 3, 185, 135, 193, 222, 14, 210, 225, 139, 72, 246, 46, 22, 80, 246, 209, 90, 176, 166, 183, 221, 229, 202, 120, 216, 83, 163, 46, 89, 251], [142, 134, 96, 206, 52, 232, 224, 209, 151, 218, 190, 229, 62, 1, 247, 129, 45, 167, 24, 131, 137, 41, 150, 40, 8, 208, 53, 152, 196, 62, 37, 108], [19, 207, 253, 79, 114, 203, 16, 68, 35, 5, 248, 66, 137, 93, 82, 110, 19, 111, 140, 255, 208, 161, 168, 221, 78, 40, 53, 84, 28, 75, 215, 121]]
theorem nilB4_eq : (List.range 6).map (fun j => hashL (nilS ++ beL 8 (24 + j))) = nilB4 := by decide +kernel
def nilB5 : List (List UInt8) := [[240, 219, 126, 17, 247, 35, 170, 38, 20, 41, 152, 250, 15, 237, 55, 129, 206, 190, 72, 154, 49, 14, 194, 101, 137, 70, 149, 147, 171, 205, 114, 249], [189, 16, 164, 229, 191, 240, 38, 87, 121, 60, 169, 63, 65, 209, 28, 164, 79, 100, 196, 96, 35, 22, 70, 203, 219, 150, 10, 101, 89, 255, 4, 255], [152, 132, 68, 229, 222, 233, 221, 204, 22, 117, 252, 180, 45, 96, 16, 90, 85, 14, 240, 57, 21, 197, 16, 206, 242, 230, 227, 114, 24, 246, 41, 85], [52, 116, 119, 29, 131, 173, 159, 16, 131, 3, 2, 196, 149, 151, 239, 10, 240, 76, 13, 119, 117, 220, 213, 254, 200, 41, 20, 229, 198, 248, 237, 0], [233, 214, 224, 107, 72, 244, 83, 39, 179, 97, 140, 182, 24, 142, 115, 243, 129, 34, 229, 203, 237, 28, 0, 93, 214, 120, 115, 48, 69, 153, 99, 137], [90, 78, 230, 134, 230, 45, 105, 243, 92, 0, 147, 141, 0, 34, 36, 5, 186, 131, 63, 155, 181, 107, 254, 19, 82, 40, 172, 198, 137, 235, 55, 67]]
theorem nilB5_eq : (List.range 6).map (fun j => hashL (nilS ++ beL 8 (30 + j))) = nilB5 := by decide +kernel
def nilB6 : List (List UInt8) := [[42, 167, 48, 164, 86, 228, 25, 189, 240, 176, 150, 28, 81, 254, 239, 48, 225, 30, 9, 5, 249, 107, 245, 205, 176, 33, 102, 212, 133, 235, 136, 190], [83, 182, 251, 175, 105, 251, 103, 151, 232, 169, 17, 254, 219, 153, 236, 246, 159, 66, 69, 248, 74, 153, 6, 165, 246, 143, 88, 82, 174, 234, 31, 101], [100, 94, 34, 116, 0, 121, 68, 154, 107, 212, 85, 211, 210, 114, 141, 191, 37, 53, 104, 24, 173, 93, 68, 93, 207, 36, 204, 167, 100, 166, 110, 129], [96, 193, 99, 202, 173, 109, 170, 47, 129, 117, 175, 142, 97, 125, 139, 74, 83, 248, 255, 42, 210, 42, 143, 125, 33, 22, 252, 128, 101, 70, 7, 64], [115, 245, 70, 91, 41, 105, 74, 90, 45, 101, 230, 241, 11, 226, 45, 136, 57, 176, 242, 119, 6, 98, 110, 204, 77, 103, 166, 216, 142, 156, 188, 104], [199, 81, 227, 90, 23, 3, 19, 240, 91, 59, 199, 58, 196, 247, 84, 119, 176, 123, 103, 8, 212, 159, 206, 171, 254, 220, 214, 85, 227, 86, 146, 235]]
theorem nilB6_eq : (List.range 6).map (fun j => hashL (nilS ++ beL 8 (36 + j))) = nilB6 := by decide +kernel
def nilB7 : List (List UInt8) := [[36, 154, 89, 228, 145, 22, 94, 253, 168, 1, 154, 221, 137, 135, 219, 227, 38, 217, 119, 24, 113, 144, 215, 128, 243, 47, 191, 126, 205, 135, 40, 115], [45, 229, 18, 7, 172, 145, 209, 116, 87, 122, 20, 186, 250, 51, 65, 197, 37, 135, 80, 57, 163, 82, 158, 247, 5, 220, 245, 37, 26, 222, 162, 223], [29, 78, 237, 145, 61, 202, 0, 172, 42, 2, 241, 168, 182, 73, 14, 58, 183, 238, 7, 139, 45, 163, 115, 82, 16, 100, 28, 220, 186, 161, 228, 60]]
theorem nilB7_eq : (List.range 3).map (fun j => hashL (nilS ++ beL 8 (42 + j))) = nilB7 := by decide +kernel
def nilBs : List (List UInt8) := nilB0 ++ nilB1 ++ nilB2 ++ nilB3 ++ nilB4 ++ nilB5 ++ nilB6 ++ nilB7
def nilT : List UInt8 := nilF ++ nilBs.flatten
theorem nilT_length : nilT.length = 1440 := by decide +kernel
theorem nilBs_get (j : Nat) (hj : j < 45) : hashL (nilS ++ beL 8 j) = nilBs.getD j [] := by
  have key : ∀ (c n : Nat) (B : List (List UInt8)), (List.range n).map (fun j => hashL (nilS ++ beL 8 (c + j))) = B → ∀ i, i < n → hashL (nilS ++ beL 8 (c + i)) = B.getD i [] := by
    intro c n B h i hi
    rw [← h]
    simp [List.getD_eq_getElem?_getD, hi]
  have k0 := key 0 6 _ nilB0_eq
  have k1 := key 6 6 _ nilB1_eq
  have k2 := key 12 6 _ nilB2_eq
  have k3 := key 18 6 _ nilB3_eq
  have k4 := key 24 6 _ nilB4_eq
  have k5 := key 30 6 _ nilB5_eq
  have k6 := key 36 6 _ nilB6_eq
  have k7 := key 42 3 _ nilB7_eq
  clear key
  by_cases h0 : j < 6
  · obtain ⟨i, rfl⟩ : ∃ i, j = 0 + i := ⟨j - 0, by omega⟩
    rw [k0 i (by omega)]
    match i, (show i < 6 by omega) with
    | 0, _ => rfl
    | 1, _ => rfl
    | 2, _ => rfl
    | 3, _ => rfl
    | 4, _ => rfl
    | 5, _ => rfl
    | n + 6, h => exact absurd h (by omega)
  by_cases h1 : j < 12
  · obtain ⟨i, rfl⟩ : ∃ i, j = 6 + i := ⟨j - 6, by omega⟩
    rw [k1 i (by omega)]
    match i, (show i < 6 by omega) with
    | 0, _ => rfl
    | 1, _ => rfl
    | 2, _ => rfl
    | 3, _ => rfl
    | 4, _ => rfl
    | 5, _ => rfl
    | n + 6, h => exact absurd h (by omega)
  by_cases h2 : j < 18
  · obtain ⟨i, rfl⟩ : ∃ i, j = 12 + i := ⟨j - 12, by omega⟩
    rw [k2 i (by omega)]
    match i, (show i < 6 by omega) with
    | 0, _ => rfl
    | 1, _ => rfl
    | 2, _ => rfl
    | 3, _ => rfl
    | 4, _ => rfl
    | 5, _ => rfl
    | n + 6, h => exact absurd h (by omega)
  by_cases h3 : j < 24
  · obtain ⟨i, rfl⟩ : ∃ i, j = 18 + i := ⟨j - 18, by omega⟩
    rw [k3 i (by omega)]
    match i, (show i < 6 by omega) with
    | 0, _ => rfl
    | 1, _ => rfl
    | 2, _ => rfl
    | 3, _ => rfl
    | 4, _ => rfl
    | 5, _ => rfl
    | n + 6, h => exact absurd h (by omega)
  by_cases h4 : j < 30
  · obtain ⟨i, rfl⟩ : ∃ i, j = 24 + i := ⟨j - 24, by omega⟩
    rw [k4 i (by omega)]
    match i, (show i < 6 by omega) with
    | 0, _ => rfl
    | 1, _ => rfl
    | 2, _ => rfl
    | 3, _ => rfl
    | 4, _ => rfl
    | 5, _ => rfl
    | n + 6, h => exact absurd h (by omega)
  by_cases h5 : j < 36
  · obtain ⟨i, rfl⟩ : ∃ i, j = 30 + i := ⟨j - 30, by omega⟩
    rw [k5 i (by omega)]
    match i, (show i < 6 by omega) with
    | 0, _ => rfl
    | 1, _ => rfl
    | 2, _ => rfl
    | 3, _ => rfl
    | 4, _ => rfl
    | 5, _ => rfl
    | n + 6, h => exact absurd h (by omega)
  by_cases h6 : j < 42
  · obtain ⟨i, rfl⟩ : ∃ i, j = 36 + i := ⟨j - 36, by omega⟩
    rw [k6 i (by omega)]
    match i, (show i < 6 by omega) with
    | 0, _ => rfl
    | 1, _ => rfl
    | 2, _ => rfl
    | 3, _ => rfl
    | 4, _ => rfl
    | 5, _ => rfl
    | n + 6, h => exact absurd h (by omega)
  obtain ⟨i, rfl⟩ : ∃ i, j = 42 + i := ⟨j - 42, by omega⟩
  rw [k7 i (by omega)]
  match i, (show i < 3 by omega) with
  | 0, _ => rfl
  | 1, _ => rfl
  | 2, _ => rfl
  | n + 3, h => exact absurd h (by omega)
theorem nilT_get (i : Nat) (hi : i < nilT.length) : byteS nilF i = nilT.getD i 0 := by
  rw [nilT_length] at hi
  by_cases h : i < 0
  · rw [byteS, if_pos (by show i < 0; exact h), nilT, List.getD_eq_getElem?_getD, List.getD_eq_getElem?_getD, List.getElem?_append_left (by show i < 0; exact h)]
  · rw [byteS, if_neg (by show ¬ i < 0; exact h), nilS_eq, show nilF.length = 0 from rfl, nilBs_get _ (by omega), nilT, List.getD_eq_getElem?_getD (l := nilF ++ _), List.getElem?_append_right (by show 0 ≤ i; omega), show nilF.length = 0 from rfl]
    have hf : ∀ (B : List (List UInt8)), (∀ b ∈ B, b.length = 32) → ∀ i, i / 32 < B.length → (B.flatten)[i]?.getD 0 = (B.getD (i / 32) []).getD (i % 32) 0 := flat_get
    exact (hf _ (by decide +kernel) _ (by have h2 : nilBs.length = 45 := (by decide +kernel); omega)).symm
theorem nil_once (u v n : Nat) (hn : 3 ≤ n) (hu : u + n ≤ 1440) (hv : v + n ≤ 1440) (he : tellS nilF u n = tellS nilF v n) : u = v := by
  have h : (insAll (wins (256 ^ (2 + 1)) (valO 0 (natT (nilT.take 2))) (natT (nilT.drop 2))) .nil).isSome = true := by decide +kernel
  obtain ⟨t, ht⟩ := Option.isSome_iff_exists.1 h
  exact told_once nilT_get ht u v n (by omega) (by rw [nilT_length]; exact hu) (by rw [nilT_length]; exact hv) he
end Go.Proofs.Ytlocplkjokoknaa

/- A ring of one member, which every statement of the layer asks. No condition but those each theorem states. -/
namespace Go.Proofs.Ytlocplkjokoknaa
set_option linter.unusedVariables false
set_option linter.unusedSimpArgs false
open Go.RowKit
attribute [local go_sem ↓] Go.wp_at_zero Go.wp_at_succ

def memOne : Mem := ⟨1, keyK 7, true⟩
theorem ok_memOne : OkM memOne := ⟨rfl, by decide, by decide⟩
theorem nil_onceS : OnceS nilF 1440 := fun u v n h28 hu hv he => nil_once u v n (by omega) hu hv he
def oneY : Kys := keysOf ⟨1, [], 0, [], 0⟩ 5
theorem one_check : checkL [memOne] = true := by decide
theorem seen_one : seenK oneY true = oneY := rfl
theorem flat_101 (xs : List (List UInt8)) (h : ∀ (i : Nat) (x : List UInt8), xs[i]? = some x → x.length = 101) : xs.flatten.length = 101 * xs.length := by
  induction xs with
  | nil => rfl
  | cons x xs ih =>
    rw [List.flatten_cons, List.length_append, h 0 x rfl, ih (fun i z hz => h (i + 1) z (by simpa using hz)), List.length_cons]
    omega
/-- What one finds. -/
theorem one_plainR {s' : BSt} {r : Option (List (List UInt8) × List UInt8)} (h : WrapR oneY [memOne] ⟨1, [], 64, [], 0⟩ s' r) :
    ∃ xs d, r = some (xs, d) ∧ s'.mode = 1 ∧ xs.length = 8 ∧ (∀ x ∈ xs, x.length ≤ 70000) ∧ xs.flatten.length = 808 ∧ d.length = 301 ∧ unwrapL s' (keyK 7) xs = (oneY, 0) ∧ unwrapL s' (keyK 8) xs = (kysZ, 13) ∧ ∀ p ∈ s'.m, s'.mode = 1 → p.2.text.length ≤ 100000 := by
  have hy : OkK oneY := ok_keysOf _ _
  have hl : ∀ z ∈ [memOne], OkM z := fun z hz => by
    simp only [List.mem_cons, List.mem_nil_iff, or_false] at hz
    subst hz
    exact ok_memOne
  obtain ⟨xs, d, h1, h2, h3, h4, h5, h6, h7, h8, h9⟩ := ring_ideal hy hl (by simp) rfl (show OnceS (⟨1, [], 64, [], 0⟩ : BSt).F 1440 from nil_onceS) (fun p hp => by cases hp) h (by show 64 + 1365 ≤ 1440; omega)
  have hlen := h2.len
  refine ⟨xs, d, h1, h7, hlen, fun x hx => ?_, ?_, h4, ?_, ?_, ?_⟩
  · obtain ⟨i, hi⟩ := List.getElem?_of_mem hx
    rw [(h2.each i x hi).1]
    omega
  · rw [flat_101 xs (fun i x hx => (h2.each i x hx).1), hlen]
  · exact unwrap_mem hy h2 h7 0 (by omega) memOne rfl (fun i z hi => absurd hi (Nat.not_lt_zero _))
  · have := unwrap_none h2 h7 (keyK 8) 0 (fun j z _ hz => by
      have hj : j = 0 := by have := (List.getElem?_eq_some_iff.1 hz).1; simp at this; omega
      subst hj
      simp only [List.getElem?_cons_zero, Option.some.injEq] at hz
      subst hz
      decide)
    rwa [List.drop_zero] at this
  · exact wrap_texts hy hl (by simp) (n := 100000) (by omega) (fun p hp => by cases hp) h
theorem RgB.agg {base : Nat} {W : World} {v : Value} {xs : List (List UInt8)} {d : List UInt8} (h : RgB base W v xs d) : ∃ rc : Array Value, v = .agg rc ∧ rc.size = 2 ∧ rc.all (·.oneCell') = true := by
  obtain ⟨A, c, vs, dv, h1, _, _, _, _, _, _, _, h2, _⟩ := h
  refine ⟨_, h1, rfl, ?_⟩
  rw [h2]
  simp [Value.oneCell']
theorem build_mem1 (W : World) : (Instr.build 49 #[(0, .int .i64 1), (1, .agg (W8 (keyK 7))), (2, .bool true)]).run Try.prog W = .ok (.agg (RowM memOne).toArray) W := by kernel_rfl
theorem build_mems1 (W : World) : (Instr.buildSlice 23 1 #[(0, .agg (RowM memOne).toArray)]).run Try.prog W = .ok (.slice (some ⟨W.heap.size, 0, none⟩) 1 1) (W.alloc (.cells (RowM memOne).toArray 49)) := by
  kernel_rfl
theorem run_eq_kys_true {o : Oper} {a : Act} (t2 : TypeId) (x z : Operand) (ho : o.op = .binOp .eql 37 x z t2) (y : Kys) (hy : OkK y) (hx : a.eval x = .agg (RowK y).toArray) (hz : a.eval z = .agg (RowK y).toArray) (W : World) : (execOp a.eval o).run Try.prog W = .ok (.value (.bool true)) W := by
  have := run_eq_kys t2 x z ho y y hy hy hx hz W
  rwa [decide_eq_true rfl] at this
section
variable {o : Oper} {a : Act} {Q : Exit → Act → World → Prop} {K : Act → World → Prop} {W : World}
theorem run_memOne (x : Operand) (ho : o.op = .build 49 #[(0, .const (.int .i64 1)), (1, x), (2, .const (.bool true))]) (hx : a.eval x = .agg (W8 (keyK 7))) (W : World) : (execOp a.eval o).run Try.prog W = .ok (.value (.agg (RowM memOne).toArray)) W := by
  unfold execOp
  simp only [ho, List.map_toArray, List.map_cons, List.map_nil, hx, show a.eval (.const (.bool true)) = .bool true from rfl, show a.eval (.const (.int .i64 1)) = .int .i64 1 from rfl, Sem.run_bind, build_mem1, Result.andThen_ok, Sem.run_pure]
theorem wp_memsOne (x : Operand) (ho : o.op = .buildSlice 23 1 #[(0, x)]) (hx : a.eval x = .agg (RowM memOne).toArray) (h : K (a.put o.dst (.slice (some ⟨W.heap.size, 0, none⟩) 1 1)) (W.alloc (.cells (RowM memOne).toArray 49))) : o.wp Try.prog a W K Q := by
  have h1 := build_mems1 W
  unfold Oper.wp execOp
  simp only [ho, List.map_toArray, List.map_cons, List.map_nil, hx, Sem.run_bind, Sem.run_pure, h1, Result.andThen_ok]
  exact h
end
set_option maxRecDepth 100000 in
set_option maxHeartbeats 4000000 in
theorem one_true (w : World) : Calls Try.prog 9 #[] w fun e w' => e = .returned (.bool true) ∧ Below w.heap.size w w' := by
  go_enter Try.func9, Try.ntmps9
  go_wp2_with fail
  refine (dnew_any w none 0 0 _ [] rfl (fun j v hj => by simp at hj) .nil (by decide) (by omega)).mono ?_
  rintro e w4 ⟨S, D, rfl, hg, hD1, hD2, hs, hb⟩
  have SW := Lib.hid (SrcW.new hg hD1 hD2 hs hb)
  clear hg hD1 hD2 hs hb
  go_wp2_with fail
  refine (bnew_any w S D [] 0 w4 SW.out 1 (.inr rfl)).mono ?_
  rintro e w5 ⟨g, b, lo, rfl, hbx, hb2, hlo⟩
  obtain ⟨L, hL⟩ : ∃ L, L = w5.heap.size := ⟨_, rfl⟩
  have X := Lib.hid (hbx.raise rfl (show lo ≤ L by rw [hL]; exact hlo))
  have LE := Lib.hid hL
  have LT := Lib.hid (show g < L ∧ S < L ∧ D < L ∧ b < L by rw [hL]; exact hbx.lt)
  have WL := Lib.hid (show w.heap.size ≤ L by rw [hL]; exact hbx.bel.size)
  clear hbx hb2 hlo hL SW
  go_upto_region 2 with fail
  refine wp_region_list ?_
  simp only [List.toList_toArray]
  refine wpList_val (v := ?_) (by rfl) ?_ ?_
  rotate_left
  · go_simp
    with_reducible rfl
  simp only [Act.put, List.setIfInBounds_toArray, List.set_cons_zero, List.set_cons_succ]
  refine wpList_val (by rfl) (run_keyK (.const (.int .u8 7)) rfl 7 rfl _) ?_
  simp only [Act.put, List.setIfInBounds_toArray, List.set_cons_zero, List.set_cons_succ]
  refine wpList_val (by rfl) (run_memOne (.tmp 17) rfl rfl _) ?_
  simp only [Act.put, List.setIfInBounds_toArray, List.set_cons_zero, List.set_cons_succ]
  refine wpList_op (by rfl) (fun K hK => ?_)
  refine wp_memsOne (.tmp 18) rfl rfl ?_
  generalize hN : Array.size (World.heap w5) = N5
  generalize hw : World.alloc w5 _ = w6
  have B6 := Lib.hid (show Below w5.heap.size w5 w6 by rw [← hw]; exact below_new _ _)
  have RM := Lib.hid (show RdM w6 (some ⟨N5, 0, none⟩) [memOne] from fun j z hj => by
    have hj0 : j = 0 := by have := (List.getElem?_eq_some_iff.1 hj).1; simp at this; omega
    subst hj0
    simp only [List.getElem?_cons_zero, Option.some.injEq] at hj
    subst hj
    exact ⟨ok_memOne, N5, 0, rfl, by rw [← hw]; exact range_rowL (ha_new _ _ _ hN.symm)⟩)
  have NE := Lib.hid (show N5 = L by rw [LE.out, hN])
  have X6 := Lib.hid (X.out.keep B6.out)
  clear hN hw
  refine hK.out _ _ ?_
  clear hK K
  simp only [Act.put, List.setIfInBounds_toArray, List.set_cons_zero, List.set_cons_succ]
  have MK := Lib.hid (make_any w g S D b L ⟨1, [], 0, [], 0⟩ w6 X6.out (.inr rfl) 5 (some ⟨N5, 0, none⟩) 1 [memOne] RM.out (Nat.le_refl _) (by simp) (fun _ a e => by cases e; show N5 ≠ g ∧ N5 ≠ S ∧ N5 ≠ b; have := LT.out; have := NE.out; omega)
    (by show 0 + 11000 ≤ 900000; omega) (by show ([] : List UInt8).length ≤ 100000; simp) (by show ([] : List (List UInt8 × Ent)).length ≤ 5000; simp) (by show 0 ≤ 50000; omega) (by have := B6.out.size; have := LE.out; omega) LT.out.2.2.1 WL.out)
  refine wpList_op (by rfl) (fun K hK => ?_)
  go_simp
  refine MK.out.mono ?_
  clear MK
  rintro e w7 (⟨hf, _⟩ | ⟨_, sZ, r, hwr, hbx, hbf, hr⟩)
  · rw [one_check] at hf
    cases hf
  obtain ⟨xs, d, rfl, hmode, hxl, hx7, hxf, hdl, hu7, hu8, htx⟩ := one_plainR hwr
  obtain ⟨v, rfl, hrg⟩ := hr
  have H7 := Lib.hid hbx
  have RG := Lib.hid hrg
  have MO := Lib.hid hmode
  have XL := Lib.hid hxl
  have X7 := Lib.hid hx7
  have XF := Lib.hid hxf
  have DL := Lib.hid hdl
  have U7 := Lib.hid hu7
  have U8 := Lib.hid hu8
  have TX := Lib.hid htx
  have B7 := Lib.hid (show w6.heap.size ≤ w7.heap.size from hbf.1)
  clear hwr hbx hbf hrg hmode hxl hx7 hxf hdl hu7 hu8 htx
  refine hK.out _ _ ?_
  clear hK K
  obtain ⟨rc, rfl, hsz, hone⟩ := RG.out.agg
  have IR := Lib.hid (show (Try.prog.info? 32).map (·.size) = some rc.size by rw [hsz]; exact info_ring)
  have SZ := Lib.hid hsz
  have ONE := Lib.hid hone
  have ZK := Lib.hid zeroK
  have OY := Lib.hid (show OkK oneY from ok_keysOf _ _)
  rw [show keysOf ⟨1, [], 0, [], 0⟩ 5 = oneY from rfl]
  clear hsz hone
  refine wpList_val (v := ?_) (by rfl) ?_ ?_
  rotate_left
  · go_simp
    with_reducible rfl
  simp only [Act.put, List.setIfInBounds_toArray, List.set_cons_zero, List.set_cons_succ]
  refine wpList_val (v := ?_) (by rfl) ?_ ?_
  rotate_left
  · go_simp
    with_reducible rfl
  simp only [Act.put, List.setIfInBounds_toArray, List.set_cons_zero, List.set_cons_succ]
  refine wpList_val (v := ?_) (by rfl) ?_ ?_
  rotate_left
  · go_simp
    with_reducible rfl
  simp only [Act.put, List.setIfInBounds_toArray, List.set_cons_zero, List.set_cons_succ]
  refine wpList_val (v := ?_) (by rfl) ?_ ?_
  rotate_left
  · go_simp
    with_reducible rfl
  simp only [Act.put, List.setIfInBounds_toArray, List.set_cons_zero, List.set_cons_succ]
  refine wpList_op (by rfl) (fun K hK => ?_)
  go_simp
  refine hK.out _ _ ?_
  clear hK K
  refine wpList_op (by rfl) (fun K hK => ?_)
  go_simp
  refine hK.out _ _ ?_
  clear hK K
  rw [← ZK.out]
  generalize hM3 : Array.size (World.heap w7) = M3
  generalize hwa : World.alloc w7 _ = wa
  have sa : wa.heap.size = M3 + 1 := by rw [← hwa, ha_size, hM3]
  have ra : wa.heap[M3]? = some (.cells RingZ 32 (0, 0)) := by rw [← hwa]; exact ha_new _ _ _ hM3.symm
  generalize hwb : World.alloc wa _ = w8
  have ba : Below wa.heap.size wa w8 := by rw [← hwb]; exact below_new _ _
  have R3 := Lib.hid (below_block ba (row_lt ra) ra)
  have R4 := Lib.hid (show w8.heap[M3 + 1]? = some (.cells (RowK kysZ).toArray 37 (0, 0)) by rw [← hwb]; exact ha_new _ _ _ sa.symm)
  have B8 := Lib.hid (show Below w7.heap.size w7 w8 from by
    have h1 : Below w7.heap.size w7 wa := by rw [← hwa]; exact below_new _ _
    exact h1.trans (ba.mono h1.size))
  have ME := Lib.hid hM3
  clear hwa sa ra hwb ba hM3
  refine wpList_store_whole rfl rfl 32 (.tmp 3) (.tmp 21) rfl M3 rc rfl rfl 32 _ R3.out IR.out (by rw [SZ.out]; rfl) ONE.out ?_
  intro w9 hz9 hg9 _
  refine wpList_store_whole rfl rfl 37 (.tmp 4) (.tmp 22) rfl (M3 + 1) (RowK oneY).toArray rfl rfl 37 _ (grown_block hg9 (fun e => by have := Option.some.inj e; omega) R4.out) (info_kysC _ OY.out) (by rw [sizeK _ ok_kysZ, sizeK _ OY.out]) (rowK_one _) ?_
  intro w10 hz10 hg10 _
  have R3 := Lib.hid (grown_block hg10 (fun e => by have := Option.some.inj e; omega) hz9)
  have R4 := Lib.hid hz10
  have BA := Lib.hid (show Below w7.heap.size w7 w10 from grown_below_on (grown_below_on B8.out hg9 (by rw [ME.out]; exact Nat.le_refl _)) hg10 (by rw [ME.out]; omega))
  have HA := Lib.hid (H7.out.keep BA.out)
  have RGA := Lib.hid (RG.out.keep BA.out)
  clear hz9 hg9 hz10 hg10 H7 RG B8
  go_upto_region 3 with fail
  refine wp_region_list ?_
  simp only [List.toList_toArray]
  refine wpList_val (v := ?_) (by rfl) ?_ ?_
  rotate_left
  · go_simp
    with_reducible rfl
  simp only [Act.put, List.setIfInBounds_toArray, List.set_cons_zero, List.set_cons_succ]
  refine wpList_val (by rfl) (run_load_row 32 (.tmp 3) rfl M3 rfl 32 rc (0, 0) _ R3.out Try.underlying32 rfl IR.out) ?_
  simp only [Act.put, List.setIfInBounds_toArray, List.set_cons_zero, List.set_cons_succ]
  refine wpList_val (by rfl) (run_keyK (.const (.int .u8 7)) rfl 7 rfl _) ?_
  simp only [Act.put, List.setIfInBounds_toArray, List.set_cons_zero, List.set_cons_succ]
  have UX := Lib.hid (unwrap_any w g S D b L sZ w10 HA.out (.inr MO.out) (.agg rc) xs d _ RGA.out X7.out (by rw [XL.out]; omega) (keyK 7) rfl TX.out)
  rw [U7.out] at UX
  refine wpList_op (by rfl) (fun K hK => ?_)
  go_simp
  refine UX.out.mono ?_
  clear UX
  rintro e w11 ⟨rfl, hb⟩
  have BB := Lib.hid hb
  clear hb
  refine hK.out _ _ ?_
  clear hK K
  go_upto_region 4 with (refine wpList_store_new rfl rfl 37 (.tmp 6) (.tmp 29) rfl (RowK oneY).toArray rfl rfl (info_kysC _ OY.out) (by rw [← ZK.out, sizeK _ ok_kysZ, sizeK _ OY.out]) (rowK_one _) ?_)
  generalize hM6 : Array.size (World.heap w11) = M6
  generalize hw12 : World.alloc w11 _ = w12
  have BC := Lib.hid (show Below w10.heap.size w10 w12 by rw [← hw12]; exact BB.out.alloc BB.out.size _)
  have R6 := Lib.hid (show w12.heap[M6]? = some (.cells (RowK oneY).toArray 37 (0, 0)) by rw [← hw12]; exact ha_new _ _ _ hM6.symm)
  have R3C := Lib.hid (below_block BC.out (row_lt R3.out) R3.out)
  have R4C := Lib.hid (below_block BC.out (row_lt R4.out) R4.out)
  have HC := Lib.hid (HA.out.keep BC.out)
  have RGC := Lib.hid (RGA.out.keep BC.out)
  clear hM6 hw12
  refine wp_region_list ?_
  simp only [List.toList_toArray]
  refine wpList_val (v := ?_) (by rfl) ?_ ?_
  rotate_left
  · go_simp
    with_reducible rfl
  simp only [Act.put, List.setIfInBounds_toArray, List.set_cons_zero, List.set_cons_succ]
  refine wpList_val (by rfl) (run_load_row 32 (.tmp 3) rfl M3 rfl 32 rc (0, 0) _ R3C.out Try.underlying32 rfl IR.out) ?_
  simp only [Act.put, List.setIfInBounds_toArray, List.set_cons_zero, List.set_cons_succ]
  refine wpList_val (by rfl) (run_keyK (.const (.int .u8 8)) rfl 8 rfl _) ?_
  simp only [Act.put, List.setIfInBounds_toArray, List.set_cons_zero, List.set_cons_succ]
  have UX := Lib.hid (unwrap_any w g S D b L sZ w12 HC.out (.inr MO.out) (.agg rc) xs d _ RGC.out X7.out (by rw [XL.out]; omega) (keyK 8) rfl TX.out)
  rw [U8.out] at UX
  refine wpList_op (by rfl) (fun K hK => ?_)
  go_simp
  refine UX.out.mono ?_
  clear UX
  rintro e w13 ⟨rfl, hb⟩
  have BD := Lib.hid hb
  clear hb
  refine hK.out _ _ ?_
  clear hK K
  go_upto_region 5 with (refine wpList_store_new rfl rfl 37 (.tmp 8) (.tmp 36) rfl (RowK kysZ).toArray rfl rfl (info_kysC _ ok_kysZ) (by rw [← ZK.out]) (rowK_one _) ?_)
  generalize hw14 : World.alloc w13 _ = w14
  have BE := Lib.hid (show Below w12.heap.size w12 w14 by rw [← hw14]; exact BD.out.alloc BD.out.size _)
  have R3E := Lib.hid (below_block BE.out (row_lt R3C.out) R3C.out)
  have R4E := Lib.hid (below_block BE.out (row_lt R4C.out) R4C.out)
  have R6E := Lib.hid (below_block BE.out (row_lt R6.out) R6.out)
  have RGE := Lib.hid (RGC.out.keep BE.out)
  have HE := Lib.hid (HC.out.keep BE.out)
  clear hw14
  refine wp_region_list ?_
  simp only [List.toList_toArray]
  refine wpList_val (v := ?_) (by rfl) ?_ ?_
  rotate_left
  · go_simp
    with_reducible rfl
  simp only [Act.put, List.setIfInBounds_toArray, List.set_cons_zero, List.set_cons_succ]
  refine wpList_val (v := ?_) (by rfl) ?_ ?_
  rotate_left
  · go_simp
    with_reducible rfl
  simp only [Act.put, List.setIfInBounds_toArray, List.set_cons_zero, List.set_cons_succ]
  refine wpList_val (v := ?_) (by rfl) ?_ ?_
  rotate_left
  · go_simp
    with_reducible rfl
  simp only [Act.put, List.setIfInBounds_toArray, List.set_cons_zero, List.set_cons_succ]
  refine wpList_valg (v := ?_) (by rfl) ?_ ?_
  rotate_left
  · go_simp
    with_reducible rfl
  simp only [Act.put, List.setIfInBounds_toArray, List.set_cons_zero, List.set_cons_succ]
  refine wpList_valg (v := ?_) (by rfl) ?_ ?_
  rotate_left
  · go_simp
    with_reducible rfl
  simp only [Act.put, List.setIfInBounds_toArray, List.set_cons_zero, List.set_cons_succ]
  refine wpList_val (v := ?_) (by rfl) ?_ ?_
  rotate_left
  · go_simp
    with_reducible rfl
  simp only [Act.put, List.setIfInBounds_toArray, List.set_cons_zero, List.set_cons_succ]
  refine wpList_val (v := ?_) (by rfl) ?_ ?_
  rotate_left
  · go_simp
    with_reducible rfl
  simp only [Act.put, List.setIfInBounds_toArray, List.set_cons_zero, List.set_cons_succ]
  refine wpList_valg (by rfl) (run_load_row 37 (.tmp 6) rfl M6 rfl 37 (RowK oneY).toArray (0, 0) _ R6E.out Try.underlying37 rfl (info_kysC _ OY.out)) ?_
  simp only [Act.put, List.setIfInBounds_toArray, List.set_cons_zero, List.set_cons_succ]
  refine wpList_valg (by rfl) (run_load_row 37 (.tmp 4) rfl (M3 + 1) rfl 37 (RowK oneY).toArray (0, 0) _ R4E.out Try.underlying37 rfl (info_kysC _ OY.out)) ?_
  simp only [Act.put, List.setIfInBounds_toArray, List.set_cons_zero, List.set_cons_succ]
  refine wpList_valg (by rfl) (run_eq_kys_true _ (.tmp 45) (.tmp 46) rfl oneY OY.out rfl rfl _) ?_
  simp only [Act.put, List.setIfInBounds_toArray, List.set_cons_zero, List.set_cons_succ]
  refine wpList_val (v := ?_) (by rfl) ?_ ?_
  rotate_left
  · go_simp
    with_reducible rfl
  simp only [Act.put, List.setIfInBounds_toArray, List.set_cons_zero, List.set_cons_succ]
  refine wpList_val (v := ?_) (by rfl) ?_ ?_
  rotate_left
  · go_simp
    with_reducible rfl
  simp only [Act.put, List.setIfInBounds_toArray, List.set_cons_zero, List.set_cons_succ]
  refine wpList_valg (v := ?_) (by rfl) ?_ ?_
  rotate_left
  · go_simp
    with_reducible rfl
  simp only [Act.put, List.setIfInBounds_toArray, List.set_cons_zero, List.set_cons_succ]
  refine wpList_valg (by rfl) (run_cell 33 (.tmp 50) rfl _ Try.underlying33 rfl rfl (row_cell R4E.out 0 (show (RowK oneY).toArray[0]? = some (.int .u64 5) from rfl))) ?_
  simp only [Act.put, List.setIfInBounds_toArray, List.set_cons_zero, List.set_cons_succ]
  refine wpList_valg (v := ?_) (by rfl) ?_ ?_
  rotate_left
  · go_simp
    with_reducible rfl
  simp only [Act.put, List.setIfInBounds_toArray, List.set_cons_zero, List.set_cons_succ]
  refine wpList_val (v := ?_) (by rfl) ?_ ?_
  rotate_left
  · go_simp
    with_reducible rfl
  simp only [Act.put, List.setIfInBounds_toArray, List.set_cons_zero, List.set_cons_succ]
  refine wpList_val (v := ?_) (by rfl) ?_ ?_
  rotate_left
  · go_simp
    with_reducible rfl
  simp only [Act.put, List.setIfInBounds_toArray, List.set_cons_zero, List.set_cons_succ]
  refine wpList_valg (v := ?_) (by rfl) ?_ ?_
  rotate_left
  · go_simp
    with_reducible rfl
  simp only [Act.put, List.setIfInBounds_toArray, List.set_cons_zero, List.set_cons_succ]
  refine wpList_valg (v := ?_) (by rfl) ?_ ?_
  rotate_left
  · go_simp
    with_reducible rfl
  simp only [Act.put, List.setIfInBounds_toArray, List.set_cons_zero, List.set_cons_succ]
  refine wpList_val (v := ?_) (by rfl) ?_ ?_
  rotate_left
  · go_simp
    with_reducible rfl
  simp only [Act.put, List.setIfInBounds_toArray, List.set_cons_zero, List.set_cons_succ]
  refine wpList_val (v := ?_) (by rfl) ?_ ?_
  rotate_left
  · go_simp
    with_reducible rfl
  simp only [Act.put, List.setIfInBounds_toArray, List.set_cons_zero, List.set_cons_succ]
  refine wpList_valg (by rfl) (run_load_row 32 (.tmp 3) rfl M3 rfl 32 rc (0, 0) _ R3E.out Try.underlying32 rfl IR.out) ?_
  simp only [Act.put, List.setIfInBounds_toArray, List.set_cons_zero, List.set_cons_succ]
  go_wp2_with fail
  refine (put_ring w14 (.agg rc) xs d _ RGE.out (by rw [XL.out]; omega) (by rw [XF.out]; omega) (by rw [DL.out]; omega)).mono ?_
  rintro e w15 ⟨u, rfl, ho, hb⟩
  obtain ⟨Au, cu, rfl, _, _, _, _⟩ := ho.read
  rw [show (xs.flatten ++ d).length = 1109 by rw [List.length_append, XF.out, DL.out]]
  have BF := Lib.hid (show Below w.heap.size w w15 from HE.out.bel.trans (hb.mono HE.out.bel.size))
  clear ho hb
  go_wp2_with fail
  go_ret
  exact ⟨rfl, BF.out⟩
end Go.Proofs.Ytlocplkjokoknaa

/- Two ideal rings in lockstep: plain. No condition but those each theorem states. -/
namespace Go.Proofs.Ytlocplkjokoknaa
set_option linter.unusedVariables false
set_option linter.unusedSimpArgs false
open Go.RowKit

theorem seal_len {s s' : BSt} {e : Ent} {x : List UInt8} (hs : SealR s e s' (some x)) (hm : s.mode = 1) : x.length = e.text.length + 28 := by
  obtain ⟨_, h2⟩ := hs.ideal hm
  exact (idealL_some 8 s e x h2.symm).2.1
theorem wraps_len {y : Kys} (hy : OkK y) {l : List Mem} {s : BSt} (hm : s.mode = 1) {i : Nat} {s1 : BSt} {xs : List (List UInt8)} (h : WrapsR y l s i s1 xs) : ∀ x ∈ xs, x.length = 101 := by
  induction h with
  | zero => intro x hx; cases hx
  | @succ i sa sb xs x hwr hse ih =>
    intro z hz
    rcases List.mem_append.mp hz with hz | hz
    · exact ih z hz
    · simp only [List.mem_cons, List.mem_nil_iff, or_false] at hz
      rw [hz, seal_len hse (by rw [(@entAt_state y l i sa).1, (hwr.bounds hy).1]; exact hm), entAt_text hy]
/-- The bytes of an ideal ring: how many. -/
theorem ring_len {y : Kys} (hy : OkK y) {l : List Mem} (hl : ∀ z ∈ l, OkM z) (h8 : l.length ≤ 8) {s s' : BSt} (hm : s.mode = 1) {xs : List (List UInt8)} {d : List UInt8} (h : WrapR y l s s' (some (xs, d))) : xs.length = 8 ∧ xs.flatten.length = 808 ∧ d.length = 301 := by
  have hd : (dirE y l).text.length = 273 := dirL_length hl h8
  rcases h with ⟨_, _, _, _, _, _, h⟩ | ⟨_, _, _, _, h⟩ | ⟨s1, xs', d', hwr, hse, h⟩
  · cases h
  · cases h
  · injection h with h
    injection h with h1 h2
    subst h1 h2
    have hlen := hwr.len
    refine ⟨hlen, ?_, ?_⟩
    · rw [flat_101 xs (fun i x hx => wraps_len hy hm hwr x (List.mem_of_getElem? hx)), hlen]
    · rw [seal_len hse (by rw [(hwr.bounds hy).1]; exact hm), hd]
theorem entAt_alike {y y' : Kys} (hy : OkK y) (hy' : OkK y') {l l' : List Mem} (hl : l.length = l'.length) (i : Nat) {s s' : BSt} (h : AlikeB s s') : AlikeB (entAt y l i s).1 (entAt y' l' i s').1 := by
  obtain ⟨h1, h2, h3, h4, h5⟩ := h
  unfold entAt
  rcases Nat.lt_or_ge i l.length with hi | hi
  · rw [List.getElem?_eq_getElem hi, List.getElem?_eq_getElem (show i < l'.length by omega)]
    exact ⟨h1, h2, h3, h4, h5⟩
  · rw [List.getElem?_eq_none hi, List.getElem?_eq_none (show l'.length ≤ i by omega)]
    exact ⟨h1, h2, by show s.u + 32 = s'.u + 32; rw [h3], h4, h5⟩
theorem wraps_alike {y y' : Kys} (hy : OkK y) (hy' : OkK y') {l l' : List Mem} (hl : l.length = l'.length) {s s' : BSt} (hm : s.mode = 1) (ha : AlikeB s s') {i : Nat} {s1 : BSt} {xs : List (List UInt8)} (h : WrapsR y l s i s1 xs) :
    ∀ {s1' : BSt} {xs' : List (List UInt8)}, WrapsR y' l' s' i s1' xs' → xs = xs' ∧ AlikeB s1 s1' := by
  induction h with
  | zero => intro s1' xs' h'; cases h'; exact ⟨rfl, ha⟩
  | @succ i sa sb xs x hwr hse ih =>
    intro s1' xs' h'
    cases h' with
    | @succ _ sa' _ xs'' x' hwr' hse' =>
      obtain ⟨e1, a1⟩ := ih hwr'
      have hm1 : (entAt y l i sa).1.mode = 1 := by rw [(@entAt_state y l i sa).1, (hwr.bounds hy).1]; exact hm
      obtain ⟨e2, a2⟩ := sealR_alike hse hse' hm1 (entAt_alike hy hy' hl i a1) (by rw [entAt_text hy, entAt_text hy'])
      injection e2 with e2
      exact ⟨by rw [e1, e2], a2⟩
/-- Made of as many members, out of boxes in lockstep: the same bytes. -/
theorem ring_alike {y y' : Kys} (hy : OkK y) (hy' : OkK y') {l l' : List Mem} (hl : l.length = l'.length) (ho : ∀ z ∈ l, OkM z) (ho' : ∀ z ∈ l', OkM z) (h8 : l.length ≤ 8) {s s' t t' : BSt} (hm : s.mode = 1) (ha : AlikeB s s') {xs xs' : List (List UInt8)} {d d' : List UInt8}
    (h : WrapR y l s t (some (xs, d))) (h' : WrapR y' l' s' t' (some (xs', d'))) : xs = xs' ∧ d = d' := by
  rcases h with ⟨_, _, _, _, _, _, h⟩ | ⟨_, _, _, _, h⟩ | ⟨s1, xs1, d1, hwr, hse, h⟩
  · cases h
  · cases h
  · rcases h' with ⟨_, _, _, _, _, _, h'⟩ | ⟨_, _, _, _, h'⟩ | ⟨s1', xs1', d1', hwr', hse', h'⟩
    · cases h'
    · cases h'
    · injection h with h
      injection h with h1 h2
      injection h' with h'
      injection h' with h1' h2'
      subst h1 h2 h1' h2'
      obtain ⟨e1, a1⟩ := wraps_alike hy hy' hl hm ha hwr hwr'
      have hd : (dirE y l).text.length = 273 := dirL_length ho h8
      have hd' : (dirE y' l').text.length = 273 := dirL_length ho' (by omega)
      obtain ⟨e2, _⟩ := sealR_alike hse hse' (by rw [(hwr.bounds hy).1]; exact hm) a1 (by rw [hd, hd'])
      injection e2 with e2
      exact ⟨e1, e2⟩
end Go.Proofs.Ytlocplkjokoknaa

/- The law RingLengths, walked. -/
namespace Go.Proofs.Ytlocplkjokoknaa
set_option linter.unusedVariables false
set_option linter.unusedSimpArgs false
open Go.RowKit
attribute [local go_sem ↓] Go.wp_at_zero Go.wp_at_succ

/-- What Make answers, in one form. -/
structure MadeR (w0 : World) (g S D b lo : Nat) (ep : UInt64) (l : List Mem) (s : BSt) (w : World) (rc : Array Value) (yk : Kys) (ea : Int) (w' : World) : Prop where
  ok : OkK yk
  sz : rc.size = 2
  one : rc.all (·.oneCell') = true
  fr : BoxF g S b w w'
  bel : Below w0.heap.size w0 w'
  bad : ea = 2 → checkL l = false
  good : ea = 0 → checkL l = true ∧ yk = keysOf s ep ∧ ∃ s' xs d, WrapR (keysOf s ep) l { s with u := s.u + 64 } s' (some (xs, d)) ∧ BoxB w0 g S D b lo s' w' ∧ RgB w.heap.size w' (.agg rc) xs d
theorem MakeP.one {w0 : World} {g S D b lo : Nat} {ep : UInt64} {l : List Mem} {s : BSt} {w : World} {e : Ending} {w' : World} (h : MakeP w0 g S D b lo ep l s w e w') (hb : Below w0.heap.size w0 w) :
    ∃ rc yk ea, e = .returned (.tuple #[.agg rc, .agg (RowK yk).toArray, .int .i64 ea]) ∧ (ea = 0 ∨ ea = 2 ∨ ea = 15) ∧ MadeR w0 g S D b lo ep l s w rc yk ea w' := by
  rcases h with ⟨hc, rfl, hbl⟩ | ⟨hc, s', r, hw, hx, hf, hr⟩
  · exact ⟨RingZ, kysZ, 2, rfl, .inr (.inl rfl), ok_kysZ, rfl, ringZ_one, (BoxF.refl g S b w).below hbl, hb.trans (hbl.mono hb.size), fun _ => hc, fun h => by cases h⟩
  · rcases r with _ | ⟨xs, d⟩
    · exact ⟨RingZ, kysZ, 15, hr, .inr (.inr rfl), ok_kysZ, rfl, ringZ_one, hf, hx.bel, (fun h => by cases h), (fun h => by cases h)⟩
    · obtain ⟨v, he, hrg⟩ := hr
      obtain ⟨rc, rfl, h2, h3⟩ := hrg.agg
      exact ⟨rc, keysOf s ep, 0, he, .inl rfl, ok_keysOf _ _, h2, h3, hf, hx.bel, (fun h => by cases h), fun _ => ⟨hc, rfl, s', xs, d, hw, hx, hrg⟩⟩
set_option maxRecDepth 100000 in
set_option maxHeartbeats 8000000 in
theorem ringLengths_walk (w : World) (A0 : Option Addr) (c0 : Nat) (l0 : List UInt8) (R0 : RdB w A0 l0) (n0 : l0.length ≤ c0) (z0 : l0.length ≤ 140737488351232)
    (A1 : Option Addr) (c1 : Nat) (zs : List Mem) (R1 : RdM w A1 zs) (n1 : zs.length ≤ c1) (b1 : zs ≠ [] → ∀ a, A1 = some a → a.block < w.heap.size) (A2 : Option Addr) (c2 : Nat) (ms : List Mem) (R2 : RdM w A2 ms) (n2 : ms.length ≤ c2) (b2 : ms ≠ [] → ∀ a, A2 = some a → a.block < w.heap.size) :
    Calls Try.prog 3 #[.slice A0 l0.length c0, .slice A1 zs.length c1, .slice A2 ms.length c2] w fun e w' => e = .returned (.bool true) ∧ Below w.heap.size w w' := by
  have TB := Lib.hid (show ByteT Try.prog from ⟨Try.underlying22, by kernel_rfl⟩)
  have ZK := Lib.hid zeroK
  have F0 := Lib.hid R0
  have H1 := Lib.hid R1
  have H2 := Lib.hid R2
  have L1 := Lib.hid b1
  have L2 := Lib.hid b2
  obtain ⟨n, hn⟩ : ∃ q, q = l0.length := ⟨_, rfl⟩
  obtain ⟨q1, hq1⟩ : ∃ q, q = zs.length := ⟨_, rfl⟩
  obtain ⟨q2, hq2⟩ : ∃ q, q = ms.length := ⟨_, rfl⟩
  rw [← hn, ← hq1, ← hq2]
  have NE := Lib.hid hn.symm
  have Q1 := Lib.hid hq1.symm
  have Q2 := Lib.hid hq2.symm
  have NC := Lib.hid (show n ≤ c0 ∧ q1 ≤ c1 ∧ q2 ≤ c2 by omega)
  clear R0 R1 R2 b1 b2 n0 n1 n2 hn hq1 hq2 z0
  go_enter Try.func3, Try.ntmps3
  by_cases h1 : 200 < n
  · have hD : decide ((200 : Int) < (n : Int)) = true := by simp; omega
    go_wp2_with fail
    go_ret
    exact ⟨rfl, Below.refl _ _⟩
  have hD1 : decide ((200 : Int) < (n : Int)) = false := by simp; omega
  by_cases h2 : 8 < q1
  · have hD : decide ((8 : Int) < (q1 : Int)) = true := by simp; omega
    go_wp2_with fail
    go_ret
    exact ⟨rfl, Below.refl _ _⟩
  have hD2 : decide ((8 : Int) < (q1 : Int)) = false := by simp; omega
  by_cases h3 : 8 < q2
  · have hD : decide ((8 : Int) < (q2 : Int)) = true := by simp; omega
    go_wp2_with fail
    go_ret
    exact ⟨rfl, Below.refl _ _⟩
  have hD3 : decide ((8 : Int) < (q2 : Int)) = false := by simp; omega
  have NZ := Lib.hid (show l0.length ≤ 100000 by rw [NE.out]; omega)
  have QZ := Lib.hid (show q1 ≤ 8 ∧ q2 ≤ 8 by omega)
  clear h1 h2 h3
  go_wp2_with fail
  have RV := Lib.hid (RdV.row (g := w.heap.size) (l := [.slice A0 n c0]) (t := 22) (fr := (0, 0)) (w := w.alloc (.cells #[.slice A0 n c0] 22)) (ha_new _ _ _ rfl))
  have B3 := Lib.hid (below_new w (.cells #[.slice A0 n c0] 22))
  generalize World.alloc w _ = w3 at *
  refine (dnew_any w3 _ 1 1 _ [l0] rfl RV.out (.cons ⟨_, c0, by rw [NE.out], by rw [NE.out]; exact NC.out.1, F0.out.keep B3.out⟩ .nil) (by have := NZ.out; simpa using this) (by omega)).mono ?_
  rw [show ([l0] : List (List UInt8)).flatten = l0 by simp]
  rintro e w4 ⟨S, D, rfl, hg, hD1, hD2, hs, hb⟩
  have SW := Lib.hid (SrcW.new hg hD1 hD2 hs hb)
  clear hg hD1 hD2 hs hb
  go_wp2_with fail
  refine (bnew_any w3 S D l0 0 w4 SW.out 1 (.inr rfl)).mono ?_
  rintro e w5 ⟨g, b, lo, rfl, hbx, hb2, hlo⟩
  have X := Lib.hid hbx
  have XL := Lib.hid hlo
  have BW5 := Lib.hid (B3.out.trans (hbx.bel.mono B3.out.size))
  clear hbx hb2 hlo SW
  go_wp2_with fail
  have RV := Lib.hid (RdV.row (g := w5.heap.size) (l := [.slice A0 n c0]) (t := 22) (fr := (0, 0)) (w := w5.alloc (.cells #[.slice A0 n c0] 22)) (ha_new _ _ _ rfl))
  have B5 := Lib.hid (below_new w5 (.cells #[.slice A0 n c0] 22))
  generalize World.alloc w5 _ = w6 at *
  refine (dnew_any w6 _ 1 1 _ [l0] rfl RV.out (.cons ⟨_, c0, by rw [NE.out], by rw [NE.out]; exact NC.out.1, (F0.out.keep BW5.out).keep B5.out⟩ .nil) (by have := NZ.out; simpa using this) (by omega)).mono ?_
  rw [show ([l0] : List (List UInt8)).flatten = l0 by simp]
  rintro e w7 ⟨S2, D2, rfl, hg, hD1, hD2, hs, hb⟩
  have SW := Lib.hid (SrcW.new hg hD1 hD2 hs hb)
  clear hg hD1 hD2 hs hb
  go_wp2_with fail
  refine (bnew_any w6 S2 D2 l0 0 w7 SW.out 1 (.inr rfl)).mono ?_
  rintro e w8 ⟨g2, b2, lo2, rfl, hbx, hb2, hlo⟩
  have M1 := Lib.hid X.out.lt
  have Z56 := Lib.hid B5.out.size
  have B36 := Lib.hid (X.out.bel.trans (B5.out.mono X.out.bel.size))
  have X8 := Lib.hid ((X.out.keep B5.out).keep hbx.bel)
  have M2 := Lib.hid (show w5.heap.size ≤ g2 ∧ w5.heap.size ≤ S2 ∧ w5.heap.size ≤ D2 ∧ w5.heap.size ≤ b2 by have := hbx.hg; have := hbx.hS; have := hbx.hD; have := hbx.hb; have := Z56.out; omega)
  have M3 := Lib.hid hbx.lt
  have Y8 := Lib.hid (hbx.rebase B36.out)
  have Z8 := Lib.hid (show w5.heap.size ≤ w8.heap.size from Nat.le_trans Z56.out hbx.bel.size)
  obtain ⟨L, hL⟩ : ∃ L, L = w8.heap.size := ⟨_, rfl⟩
  have LE := Lib.hid hL
  have XX := Lib.hid (show BoxB w3 g S D b L ⟨1, l0, 0, [], 0⟩ w8 from X8.out.raise rfl (by rw [hL]; exact Nat.le_trans XL.out Z8.out))
  have YY := Lib.hid (show BoxB w3 g2 S2 D2 b2 L ⟨1, l0, 0, [], 0⟩ w8 from Y8.out.raise rfl (by rw [hL]; exact hlo))
  have NEQ := Lib.hid (show (g2 ≠ g ∧ g2 ≠ S ∧ g2 ≠ b) ∧ (S2 ≠ g ∧ S2 ≠ S ∧ S2 ≠ b) ∧ (D2 ≠ g ∧ D2 ≠ S ∧ D2 ≠ b) ∧ (b2 ≠ g ∧ b2 ≠ S ∧ b2 ≠ b) by have := M1.out; have := M2.out; omega)
  have LL := Lib.hid (show (g < L ∧ S < L ∧ D < L ∧ b < L) ∧ (g2 < L ∧ S2 < L ∧ D2 < L ∧ b2 < L) by have := M1.out; have := M3.out; have := Z8.out; omega)
  have BG := Lib.hid (show (w.heap.size ≤ g ∧ w.heap.size ≤ S ∧ w.heap.size ≤ b) ∧ (w.heap.size ≤ g2 ∧ w.heap.size ≤ S2 ∧ w.heap.size ≤ b2) by have := B3.out.size; have := X.out.hg; have := X.out.hS; have := X.out.hb; have := M2.out; have := X.out.bel.size; omega)
  have BW8 := Lib.hid (show Below w.heap.size w w8 from B3.out.trans (XX.out.bel.mono B3.out.size))
  have W3L := Lib.hid (show w3.heap.size ≤ L by rw [hL]; exact XX.out.bel.size)
  clear hbx hb2 hlo hL X XL X8 Y8 M1 M2 M3 B36 Z56 B5 SW RV BW5
  go_upto_region 7 with fail
  refine wp_region_list ?_
  simp only [List.toList_toArray]
  refine wpList_val (v := ?_) (by rfl) ?_ ?_
  rotate_left
  · go_simp
    with_reducible rfl
  simp only [Act.put, List.setIfInBounds_toArray, List.set_cons_zero, List.set_cons_succ]
  refine wpList_val (v := ?_) (by rfl) ?_ ?_
  rotate_left
  · go_simp
    with_reducible rfl
  simp only [Act.put, List.setIfInBounds_toArray, List.set_cons_zero, List.set_cons_succ]
  have MK := Lib.hid (show Calls Try.prog 7 #[.pointer (some ⟨g, 0, none⟩), .int .u64 1, .slice A1 q1 c1] w8 (MakeP w3 g S D b L 1 zs ⟨1, l0, 0, [], 0⟩ w8) by
    rw [← Q1.out]
    exact make_any w3 g S D b L ⟨1, l0, 0, [], 0⟩ w8 XX.out (.inr rfl) 1 A1 c1 zs (H1.out.keep BW8.out) (by rw [Q1.out]; exact NC.out.2.1) (by rw [Q1.out]; have := QZ.out; omega) (fun h a e => by have := L1.out h a e; have := BG.out; omega) (by show 0 + 11000 ≤ 900000; omega) NZ.out (by show 0 ≤ 5000; omega) (by show 0 ≤ 50000; omega) (by rw [LE.out]; exact Nat.le_refl _) LL.out.1.2.2.1 W3L.out)
  refine wpList_op (by rfl) (fun K hK => ?_)
  go_simp
  refine MK.out.mono ?_
  clear MK
  rintro e w9 hmp
  obtain ⟨ra, ya, ea, rfl, hea, hma⟩ := hmp.one XX.out.bel
  have EA := Lib.hid hea
  have MA := Lib.hid hma
  clear hea hma hmp
  refine hK.out _ _ ?_
  clear hK K
  have IRA := Lib.hid (show (Try.prog.info? 32).map (·.size) = some ra.size by rw [MA.out.sz]; exact info_ring)
  refine wpList_val (v := ?_) (by rfl) ?_ ?_
  rotate_left
  · go_simp
    with_reducible rfl
  simp only [Act.put, List.setIfInBounds_toArray, List.set_cons_zero, List.set_cons_succ]
  refine wpList_val (v := ?_) (by rfl) ?_ ?_
  rotate_left
  · go_simp
    with_reducible rfl
  simp only [Act.put, List.setIfInBounds_toArray, List.set_cons_zero, List.set_cons_succ]
  refine wpList_val (v := ?_) (by rfl) ?_ ?_
  rotate_left
  · go_simp
    with_reducible rfl
  simp only [Act.put, List.setIfInBounds_toArray, List.set_cons_zero, List.set_cons_succ]
  refine wpList_val (v := ?_) (by rfl) ?_ ?_
  rotate_left
  · go_simp
    with_reducible rfl
  simp only [Act.put, List.setIfInBounds_toArray, List.set_cons_zero, List.set_cons_succ]
  refine wpList_op (by rfl) (fun K hK => ?_)
  go_simp
  refine hK.out _ _ ?_
  clear hK K
  refine wpList_op (by rfl) (fun K hK => ?_)
  go_simp
  refine hK.out _ _ ?_
  clear hK K
  rw [← ZK.out]
  generalize hM3 : Array.size (World.heap w9) = M11
  generalize hwa : World.alloc w9 _ = wa
  have sa : wa.heap.size = M11 + 1 := by rw [← hwa, ha_size, hM3]
  have ra' : wa.heap[M11]? = some (.cells RingZ 32 (0, 0)) := by rw [← hwa]; exact ha_new _ _ _ hM3.symm
  generalize hwb : World.alloc wa _ = wb
  have ba : Below wa.heap.size wa wb := by rw [← hwb]; exact below_new _ _
  have r1 := Lib.hid (below_block ba (row_lt ra') ra')
  have r2 := Lib.hid (show wb.heap[M11 + 1]? = some (.cells (RowK kysZ).toArray 37 (0, 0)) by rw [← hwb]; exact ha_new _ _ _ sa.symm)
  have bb := Lib.hid (show Below w9.heap.size w9 wb from by
    have h1 : Below w9.heap.size w9 wa := by rw [← hwa]; exact below_new _ _
    exact h1.trans (ba.mono h1.size))
  have MEA := Lib.hid hM3
  clear hwa sa ra' hwb ba hM3
  refine wpList_store_whole rfl rfl 32 (.tmp 11) (.tmp 52) rfl M11 ra rfl rfl 32 _ r1.out IRA.out (by rw [MA.out.sz]; rfl) MA.out.one ?_
  intro wc hzc hgc _
  refine wpList_store_whole rfl rfl 37 (.tmp 12) (.tmp 53) rfl (M11 + 1) (RowK ya).toArray rfl rfl 37 _ (grown_block hgc (fun e => by have := Option.some.inj e; omega) r2.out) (info_kysC _ MA.out.ok) (by rw [sizeK _ ok_kysZ, sizeK _ MA.out.ok]) (rowK_one _) ?_
  intro w10 hzd hgd _
  have RA := Lib.hid (grown_block hgd (fun e => by have := Option.some.inj e; omega) hzc)
  have BA := Lib.hid (show Below w9.heap.size w9 w10 from grown_below_on (grown_below_on bb.out hgc (by rw [MEA.out]; exact Nat.le_refl _)) hgd (by rw [MEA.out]; omega))
  clear hzc hgc hzd hgd r1 r2 bb
  have YA := Lib.hid ((YY.out.other MA.out.fr MA.out.bel NEQ.out.1 NEQ.out.2.1 NEQ.out.2.2.1 NEQ.out.2.2.2 ⟨LL.out.1.1, LL.out.1.2.1, LL.out.1.2.2.2⟩).keep BA.out)
  have BWA := Lib.hid (show Below w.heap.size w w10 from B3.out.trans (YA.out.bel.mono B3.out.size))
  have LA := Lib.hid (show L ≤ w10.heap.size by rw [LE.out]; exact Nat.le_trans MA.out.fr.1 BA.out.size)
  have L9 := Lib.hid (show L ≤ w9.heap.size by rw [LE.out]; exact MA.out.fr.1)
  go_upto_region 8 with fail
  refine wp_region_list ?_
  simp only [List.toList_toArray]
  refine wpList_val (v := ?_) (by rfl) ?_ ?_
  rotate_left
  · go_simp
    with_reducible rfl
  simp only [Act.put, List.setIfInBounds_toArray, List.set_cons_zero, List.set_cons_succ]
  refine wpList_val (v := ?_) (by rfl) ?_ ?_
  rotate_left
  · go_simp
    with_reducible rfl
  simp only [Act.put, List.setIfInBounds_toArray, List.set_cons_zero, List.set_cons_succ]
  have MK := Lib.hid (show Calls Try.prog 7 #[.pointer (some ⟨g2, 0, none⟩), .int .u64 2, .slice A2 q2 c2] w10 (MakeP w3 g2 S2 D2 b2 L 2 ms ⟨1, l0, 0, [], 0⟩ w10) by
    rw [← Q2.out]
    exact make_any w3 g2 S2 D2 b2 L ⟨1, l0, 0, [], 0⟩ w10 YA.out (.inr rfl) 2 A2 c2 ms (H2.out.keep BWA.out) (by rw [Q2.out]; exact NC.out.2.2) (by rw [Q2.out]; have := QZ.out; omega) (fun h a e => by have := L2.out h a e; have := BG.out; omega) (by show 0 + 11000 ≤ 900000; omega) NZ.out (by show 0 ≤ 5000; omega) (by show 0 ≤ 50000; omega) LA.out LL.out.2.2.2.1 W3L.out)
  refine wpList_op (by rfl) (fun K hK => ?_)
  go_simp
  refine MK.out.mono ?_
  clear MK
  rintro e w11 hmp
  obtain ⟨rb, yb, eb, rfl, heb, hmb⟩ := hmp.one YA.out.bel
  have EB := Lib.hid heb
  have MB := Lib.hid hmb
  clear heb hmb hmp
  refine hK.out _ _ ?_
  clear hK K
  have IRB := Lib.hid (show (Try.prog.info? 32).map (·.size) = some rb.size by rw [MB.out.sz]; exact info_ring)
  refine wpList_val (v := ?_) (by rfl) ?_ ?_
  rotate_left
  · go_simp
    with_reducible rfl
  simp only [Act.put, List.setIfInBounds_toArray, List.set_cons_zero, List.set_cons_succ]
  refine wpList_val (v := ?_) (by rfl) ?_ ?_
  rotate_left
  · go_simp
    with_reducible rfl
  simp only [Act.put, List.setIfInBounds_toArray, List.set_cons_zero, List.set_cons_succ]
  refine wpList_val (v := ?_) (by rfl) ?_ ?_
  rotate_left
  · go_simp
    with_reducible rfl
  simp only [Act.put, List.setIfInBounds_toArray, List.set_cons_zero, List.set_cons_succ]
  refine wpList_val (v := ?_) (by rfl) ?_ ?_
  rotate_left
  · go_simp
    with_reducible rfl
  simp only [Act.put, List.setIfInBounds_toArray, List.set_cons_zero, List.set_cons_succ]
  refine wpList_op (by rfl) (fun K hK => ?_)
  go_simp
  refine hK.out _ _ ?_
  clear hK K
  refine wpList_op (by rfl) (fun K hK => ?_)
  go_simp
  refine hK.out _ _ ?_
  clear hK K
  rw [← ZK.out]
  generalize hM3 : Array.size (World.heap w11) = M13
  generalize hwa : World.alloc w11 _ = wa
  have sa : wa.heap.size = M13 + 1 := by rw [← hwa, ha_size, hM3]
  have ra' : wa.heap[M13]? = some (.cells RingZ 32 (0, 0)) := by rw [← hwa]; exact ha_new _ _ _ hM3.symm
  generalize hwb : World.alloc wa _ = wb
  have ba : Below wa.heap.size wa wb := by rw [← hwb]; exact below_new _ _
  have r1 := Lib.hid (below_block ba (row_lt ra') ra')
  have r2 := Lib.hid (show wb.heap[M13 + 1]? = some (.cells (RowK kysZ).toArray 37 (0, 0)) by rw [← hwb]; exact ha_new _ _ _ sa.symm)
  have bb := Lib.hid (show Below w11.heap.size w11 wb from by
    have h1 : Below w11.heap.size w11 wa := by rw [← hwa]; exact below_new _ _
    exact h1.trans (ba.mono h1.size))
  have MEB := Lib.hid hM3
  clear hwa sa ra' hwb ba hM3
  refine wpList_store_whole rfl rfl 32 (.tmp 13) (.tmp 59) rfl M13 rb rfl rfl 32 _ r1.out IRB.out (by rw [MB.out.sz]; rfl) MB.out.one ?_
  intro wc hzc hgc _
  refine wpList_store_whole rfl rfl 37 (.tmp 14) (.tmp 60) rfl (M13 + 1) (RowK yb).toArray rfl rfl 37 _ (grown_block hgc (fun e => by have := Option.some.inj e; omega) r2.out) (info_kysC _ MB.out.ok) (by rw [sizeK _ ok_kysZ, sizeK _ MB.out.ok]) (rowK_one _) ?_
  intro w12 hzd hgd _
  have RB := Lib.hid (grown_block hgd (fun e => by have := Option.some.inj e; omega) hzc)
  have BB := Lib.hid (show Below w11.heap.size w11 w12 from grown_below_on (grown_below_on bb.out hgc (by rw [MEB.out]; exact Nat.le_refl _)) hgd (by rw [MEB.out]; omega))
  clear hzc hgc hzd hgd r1 r2 bb
  have R11 := Lib.hid (below_block BB.out (row_lt (row_boxF RA.out MB.out.fr (show M11 ≠ g2 ∧ M11 ≠ S2 ∧ M11 ≠ b2 by have := MEA.out; have := L9.out; have := LL.out; omega))) (row_boxF RA.out MB.out.fr (show M11 ≠ g2 ∧ M11 ≠ S2 ∧ M11 ≠ b2 by have := MEA.out; have := L9.out; have := LL.out; omega)))
  have BT := Lib.hid (show Below w.heap.size w w12 from B3.out.trans ((MB.out.bel.trans (BB.out.mono MB.out.bel.size)).mono B3.out.size))
  have CKA := Lib.hid (show ea = 2 → chk zs = 2 from fun h => by rw [chk, MA.out.bad h]; rfl)
  have CKB := Lib.hid (show eb = 2 → chk ms = 2 from fun h => by rw [chk, MB.out.bad h]; rfl)
  have CCA := Lib.hid (show ∀ W : World, Below w.heap.size w W → Calls Try.prog 8 #[.slice A1 q1 c1] W fun e w' => e = .returned (.int .i64 (chk zs)) ∧ Below W.heap.size W w' by
    intro W hW
    rw [← Q1.out]
    exact check_any W A1 c1 zs (H1.out.keep hW) (by rw [Q1.out]; exact NC.out.2.1) (by rw [Q1.out]; have := QZ.out; omega))
  have CCB := Lib.hid (show ∀ W : World, Below w.heap.size w W → Calls Try.prog 8 #[.slice A2 q2 c2] W fun e w' => e = .returned (.int .i64 (chk ms)) ∧ Below W.heap.size W w' by
    intro W hW
    rw [← Q2.out]
    exact check_any W A2 c2 ms (H2.out.keep hW) (by rw [Q2.out]; exact NC.out.2.2) (by rw [Q2.out]; have := QZ.out; omega))
  rcases EA.out with rfl | rfl | rfl
  · rcases EB.out with rfl | rfl | rfl
    · go_upto_region 11 with fail
      obtain ⟨hca, hya, sa, xs, d, hwa, hbxa, hra⟩ := MA.out.good rfl
      obtain ⟨hcb, hyb, sb, xs', d', hwb, hbxb, hrb⟩ := MB.out.good rfl
      have OL1 := H1.out.ok
      have OL2 := H2.out.ok
      have l8 : zs.length ≤ 8 := by rw [Q1.out]; exact QZ.out.1
      have l8' : ms.length ≤ 8 := by rw [Q2.out]; exact QZ.out.2
      have LNA := Lib.hid (ring_len (ok_keysOf _ _) OL1 l8 rfl hwa)
      have LNB := Lib.hid (ring_len (ok_keysOf _ _) OL2 l8' rfl hwb)
      have SAME := Lib.hid (show q1 = q2 → xs = xs' ∧ d = d' from fun h => ring_alike (ok_keysOf _ _) (ok_keysOf _ _) (by rw [Q1.out, Q2.out, h]) OL1 OL2 l8 rfl (show AlikeB _ _ from ⟨rfl, rfl, rfl, rfl, rfl⟩) hwa hwb)
      have RGA := Lib.hid (show RgB w8.heap.size w12 (.agg ra) xs d from ((hra.keep BA.out).boxF MB.out.fr (by have := LL.out; have := LE.out; omega)).keep BB.out)
      have RGB := Lib.hid (show RgB w10.heap.size w12 (.agg rb) xs' d' from hrb.keep BB.out)
      obtain ⟨X, hX⟩ : ∃ X, X = xs.flatten ++ d := ⟨_, rfl⟩
      obtain ⟨Y, hY⟩ : ∃ Y, Y = xs'.flatten ++ d' := ⟨_, rfl⟩
      have XE := Lib.hid hX
      have YE := Lib.hid hY
      have XN := Lib.hid (show X.length = 1109 by rw [hX, List.length_append, LNA.out.2.1, LNA.out.2.2])
      have YN := Lib.hid (show Y.length = 1109 by rw [hY, List.length_append, LNB.out.2.1, LNB.out.2.2])
      have PA := Lib.hid (show ∀ W : World, Below w12.heap.size w12 W → Calls Try.prog 10 #[.agg ra] W fun e w' => ∃ u, e = .returned u ∧ OwnB w' W.heap.size u X ∧ Below W.heap.size W w' by
        intro W hW
        rw [XE.out]
        exact put_ring W (.agg ra) xs d _ (RGA.out.keep hW) (by rw [LNA.out.1]; omega) (by rw [LNA.out.2.1]; omega) (by rw [LNA.out.2.2]; omega))
      have PB := Lib.hid (show ∀ W : World, Below w12.heap.size w12 W → Calls Try.prog 10 #[.agg rb] W fun e w' => ∃ u, e = .returned u ∧ OwnB w' W.heap.size u Y ∧ Below W.heap.size W w' by
        intro W hW
        rw [YE.out]
        exact put_ring W (.agg rb) xs' d' _ (RGB.out.keep hW) (by rw [LNB.out.1]; omega) (by rw [LNB.out.2.1]; omega) (by rw [LNB.out.2.2]; omega))
      clear hca hya hwa hbxa hra hcb hyb hwb hbxb hrb OL1 OL2 l8 l8' hX hY
      go_upto_region 11 with fail
      have C0 := Lib.hid (show Below w12.heap.size w12 w12.drew from (Below.refl _ _).drew)
      refine wp_region_road (fun W => Below w12.heap.size w12 W) [(true, 0), (true, 3), (false, 1), (true, 2), (false, 4), (true, 5), (true, 6), (true, 7), (true, 8), (true, 9), (true, 10), (true, 11), (true, 12), (true, 13), (true, 14), (true, 17), (false, 15), (true, 16), (false, 18), (true, 19), (true, 20), (true, 21), (true, 22), (true, 23), (false, 24), (true, 25), (true, 26)] (by kernel_rfl) (by kernel_rfl) (fun _ _ d _ _ h => by cases d <;> exact h) ?_
      simp only [List.filterMap_cons, List.filterMap_nil, List.getElem?_toArray, List.getElem?_cons_zero, List.getElem?_cons_succ, Option.map_some]
      generalize World.drew w12 = wd at C0 ⊢
      refine planG_q (by rfl) (C0.out) (fun W hW => run_load_row 32 (.tmp 11) rfl M11 rfl 32 ra (0, 0) _ (below_block hW (row_lt R11.out) R11.out) Try.underlying32 rfl IRA.out) ?_
      simp only [Act.put, List.setIfInBounds_toArray, List.set_cons_zero, List.set_cons_succ]
      refine planG_q (by rfl) (C0.out) (fun W hW => run_load_row 32 (.tmp 13) rfl M13 rfl 32 rb (0, 0) _ (below_block hW (row_lt RB.out) RB.out) Try.underlying32 rfl IRB.out) ?_
      simp only [Act.put, List.setIfInBounds_toArray, List.set_cons_zero, List.set_cons_succ]
      refine planG_t (by rfl) (fun K hK => ?_)
      go_simp
      refine (PA.out wd C0.out).mono ?_
      rintro e w13 ⟨u, rfl, ho, hb⟩
      obtain ⟨Au, cu, rfl, _, _, _, _⟩ := ho.read
      rw [XN.out]
      have C1 := Lib.hid (C0.out.trans (hb.mono C0.out.size))
      clear ho hb
      refine hK.out _ _ (C1.out) ?_
      clear hK K
      refine planG_q (v := ?_) (by rfl) (C1.out) ?_ ?_
      rotate_left
      · intro W hW
        go_simp
        with_reducible rfl
      simp only [Act.put, List.setIfInBounds_toArray, List.set_cons_zero, List.set_cons_succ]
      refine planG_t (by rfl) (fun K hK => ?_)
      go_simp
      refine (PB.out w13 C1.out).mono ?_
      rintro e w14 ⟨u, rfl, ho, hb⟩
      obtain ⟨Av, cv, rfl, _, _, _, _⟩ := ho.read
      rw [YN.out]
      have C2 := Lib.hid (C1.out.trans (hb.mono C1.out.size))
      clear ho hb
      refine hK.out _ _ (C2.out) ?_
      clear hK K
      refine planG_q (v := ?_) (by rfl) (C2.out) ?_ ?_
      rotate_left
      · intro W hW
        go_simp
        with_reducible rfl
      simp only [Act.put, List.setIfInBounds_toArray, List.set_cons_zero, List.set_cons_succ]
      refine planG_q (v := ?_) (by rfl) (C2.out) ?_ ?_
      rotate_left
      · intro W hW
        go_simp
        with_reducible rfl
      simp only [Act.put, List.setIfInBounds_toArray, List.set_cons_zero, List.set_cons_succ]
      refine planG_q (v := ?_) (by rfl) (C2.out) ?_ ?_
      rotate_left
      · intro W hW
        go_simp
        with_reducible rfl
      simp only [Act.put, List.setIfInBounds_toArray, List.set_cons_zero, List.set_cons_succ]
      refine planG_q (v := ?_) (by rfl) (C2.out) ?_ ?_
      rotate_left
      · intro W hW
        go_simp
        with_reducible rfl
      simp only [Act.put, List.setIfInBounds_toArray, List.set_cons_zero, List.set_cons_succ]
      refine planG_q (v := ?_) (by rfl) (C2.out) ?_ ?_
      rotate_left
      · intro W hW
        go_simp
        with_reducible rfl
      simp only [Act.put, List.setIfInBounds_toArray, List.set_cons_zero, List.set_cons_succ]
      refine planG_q (v := ?_) (by rfl) (C2.out) ?_ ?_
      rotate_left
      · intro W hW
        go_simp
        with_reducible rfl
      simp only [Act.put, List.setIfInBounds_toArray, List.set_cons_zero, List.set_cons_succ]
      refine planG_q (v := ?_) (by rfl) (C2.out) ?_ ?_
      rotate_left
      · intro W hW
        go_simp
        with_reducible rfl
      simp only [Act.put, List.setIfInBounds_toArray, List.set_cons_zero, List.set_cons_succ]
      by_cases hqq : q1 = q2
      · have SM := Lib.hid (show X = Y by rw [XE.out, YE.out, (SAME.out hqq).1, (SAME.out hqq).2])
        subst hqq
        refine planG_q (v := ?_) (by rfl) (C2.out) ?_ ?_
        rotate_left
        · intro W hW
          go_simp
          with_reducible rfl
        simp only [Act.put, List.setIfInBounds_toArray, List.set_cons_zero, List.set_cons_succ]
        refine planG_q (v := ?_) (by rfl) (C2.out) ?_ ?_
        rotate_left
        · intro W hW
          go_simp
          with_reducible rfl
        simp only [Act.put, List.setIfInBounds_toArray, List.set_cons_zero, List.set_cons_succ]
        refine planG_q (by rfl) (C2.out) (fun W hW => run_load_row 32 (.tmp 11) rfl M11 rfl 32 ra (0, 0) _ (below_block hW (row_lt R11.out) R11.out) Try.underlying32 rfl IRA.out) ?_
        simp only [Act.put, List.setIfInBounds_toArray, List.set_cons_zero, List.set_cons_succ]
        refine planG_q (by rfl) (C2.out) (fun W hW => run_load_row 32 (.tmp 13) rfl M13 rfl 32 rb (0, 0) _ (below_block hW (row_lt RB.out) RB.out) Try.underlying32 rfl IRB.out) ?_
        simp only [Act.put, List.setIfInBounds_toArray, List.set_cons_zero, List.set_cons_succ]
        refine planG_t (by rfl) (fun K hK => ?_)
        go_simp
        refine (PA.out w14 C2.out).mono ?_
        rintro e w15 ⟨u, rfl, ho, hb⟩
        obtain ⟨Aw, cw, rfl, hrw, _, _, _⟩ := ho.read
        rw [XN.out]
        have RW := Lib.hid hrw
        have C3 := Lib.hid (C2.out.trans (hb.mono C2.out.size))
        clear ho hb hrw
        refine hK.out _ _ (C3.out) ?_
        clear hK K
        refine planG_sw (fun W => Below w15.heap.size w15 W) (fun W hW => C3.out.trans (hW.mono C3.out.size)) ?_
        have D3 := Lib.hid (Below.refl w15.heap.size w15)
        refine planG_q (by rfl) (D3.out) (fun W hW => run_str 22 9 (.tmp 102) rfl Try.underlying22 Try.underlying5 Try.underlying9 (RW.out.keep hW) 1109 cw XN.out rfl) ?_
        simp only [Act.put, List.setIfInBounds_toArray, List.set_cons_zero, List.set_cons_succ]
        refine planG_t (by rfl) (fun K hK => ?_)
        go_simp
        refine (PB.out w15 C3.out).mono ?_
        rintro e w16 ⟨u, rfl, ho, hb⟩
        obtain ⟨Ax, cx, rfl, hrx, _, _, _⟩ := ho.read
        rw [YN.out]
        have RX := Lib.hid hrx
        have C4 := Lib.hid (C3.out.trans (hb.mono C3.out.size))
        have D4 := Lib.hid (D3.out.trans (hb.mono D3.out.size))
        clear ho hb hrx
        refine hK.out _ _ (D4.out) ?_
        clear hK K
        refine planG_sw (fun W => Below w16.heap.size w16 W) (fun W hW => D4.out.trans (hW.mono D4.out.size)) ?_
        have D5 := Lib.hid (Below.refl w16.heap.size w16)
        refine planG_q (by rfl) (D5.out) (fun W hW => run_str 22 9 (.tmp 105) rfl Try.underlying22 Try.underlying5 Try.underlying9 (RX.out.keep hW) 1109 cx YN.out rfl) ?_
        simp only [Act.put, List.setIfInBounds_toArray, List.set_cons_zero, List.set_cons_succ]
        refine planG_q (by rfl) (D5.out) (fun W hW => run_eqstr_true 9 _ (.tmp 103) (.tmp 106) rfl X Y SM.out rfl rfl W) ?_
        simp only [Act.put, List.setIfInBounds_toArray, List.set_cons_zero, List.set_cons_succ]
        refine planG_q (v := ?_) (by rfl) (D5.out) ?_ ?_
        rotate_left
        · intro W hW
          go_simp
          with_reducible rfl
        simp only [Act.put, List.setIfInBounds_toArray, List.set_cons_zero, List.set_cons_succ]
        refine planG_q (v := ?_) (by rfl) (D5.out) ?_ ?_
        rotate_left
        · intro W hW
          go_simp
          with_reducible rfl
        simp only [Act.put, List.setIfInBounds_toArray, List.set_cons_zero, List.set_cons_succ]
        refine planG_q (v := ?_) (by rfl) (D5.out) ?_ ?_
        rotate_left
        · intro W hW
          go_simp
          with_reducible rfl
        simp only [Act.put, List.setIfInBounds_toArray, List.set_cons_zero, List.set_cons_succ]
        refine planG_t (by rfl) (fun K hK => ?_)
        go_simp
        refine (one_true w16).mono ?_
        rintro e wf ⟨rfl, hb⟩
        have BF := Lib.hid (show Below w.heap.size w wf from BT.out.trans ((C4.out.trans (hb.mono C4.out.size)).mono BT.out.size))
        have D6 := Lib.hid hb
        clear hb
        refine hK.out _ _ (D6.out) ?_
        clear hK K
        refine planG_q (v := ?_) (by rfl) (D6.out) ?_ ?_
        rotate_left
        · intro W hW
          go_simp
          with_reducible rfl
        simp only [Act.put, List.setIfInBounds_toArray, List.set_cons_zero, List.set_cons_succ]
        refine planG_q (v := ?_) (by rfl) (D6.out) ?_ ?_
        rotate_left
        · intro W hW
          go_simp
          with_reducible rfl
        simp only [Act.put, List.setIfInBounds_toArray, List.set_cons_zero, List.set_cons_succ]
        refine planG_nil ?_
        go_wp2_with fail
        go_ret
        exact ⟨rfl, BF.out⟩
      · have hne : ((q1 : Int) == (q2 : Int)) = false := by simp; omega
        have hne2 : (q1 == q2) = false := by simpa using hqq
        have hne3 : ((q1 : Int) != (q2 : Int)) = true := by simp; omega
        refine planG_q (v := ?_) (by rfl) (C2.out) ?_ ?_
        rotate_left
        · intro W hW
          go_simp
          with_reducible rfl
        simp only [Act.put, List.setIfInBounds_toArray, List.set_cons_zero, List.set_cons_succ]
        refine planG_q (v := ?_) (by rfl) (C2.out) ?_ ?_
        rotate_left
        · intro W hW
          go_simp
          with_reducible rfl
        simp only [Act.put, List.setIfInBounds_toArray, List.set_cons_zero, List.set_cons_succ]
        refine planG_qs (by rfl) (C2.out) ?_
        simp only [Act.put, List.setIfInBounds_toArray, List.set_cons_zero, List.set_cons_succ]
        refine planG_qs (by rfl) (C2.out) ?_
        simp only [Act.put, List.setIfInBounds_toArray, List.set_cons_zero, List.set_cons_succ]
        refine planG_ts (by rfl) (C2.out) ?_
        simp only [Act.put, List.setIfInBounds_toArray, List.set_cons_zero, List.set_cons_succ]
        refine planG_qs (by rfl) (C2.out) ?_
        simp only [Act.put, List.setIfInBounds_toArray, List.set_cons_zero, List.set_cons_succ]
        refine planG_ts (by rfl) (C2.out) ?_
        simp only [Act.put, List.setIfInBounds_toArray, List.set_cons_zero, List.set_cons_succ]
        refine planG_qs (by rfl) (C2.out) ?_
        simp only [Act.put, List.setIfInBounds_toArray, List.set_cons_zero, List.set_cons_succ]
        refine planG_qs (by rfl) (C2.out) ?_
        simp only [Act.put, List.setIfInBounds_toArray, List.set_cons_zero, List.set_cons_succ]
        refine planG_q (v := ?_) (by rfl) (C2.out) ?_ ?_
        rotate_left
        · intro W hW
          go_simp
          with_reducible rfl
        simp only [Act.put, List.setIfInBounds_toArray, List.set_cons_zero, List.set_cons_succ]
        refine planG_q (v := ?_) (by rfl) (C2.out) ?_ ?_
        rotate_left
        · intro W hW
          go_simp
          with_reducible rfl
        simp only [Act.put, List.setIfInBounds_toArray, List.set_cons_zero, List.set_cons_succ]
        refine planG_q (v := ?_) (by rfl) (C2.out) ?_ ?_
        rotate_left
        · intro W hW
          go_simp
          with_reducible rfl
        simp only [Act.put, List.setIfInBounds_toArray, List.set_cons_zero, List.set_cons_succ]
        refine planG_t (by rfl) (fun K hK => ?_)
        go_simp
        refine (one_true w14).mono ?_
        rintro e wf ⟨rfl, hb⟩
        have BF := Lib.hid (show Below w.heap.size w wf from BT.out.trans ((C2.out.trans (hb.mono C2.out.size)).mono BT.out.size))
        have D6 := Lib.hid (C2.out.trans (hb.mono C2.out.size))
        clear hb
        refine hK.out _ _ (D6.out) ?_
        clear hK K
        refine planG_q (v := ?_) (by rfl) (D6.out) ?_ ?_
        rotate_left
        · intro W hW
          go_simp
          with_reducible rfl
        simp only [Act.put, List.setIfInBounds_toArray, List.set_cons_zero, List.set_cons_succ]
        refine planG_q (v := ?_) (by rfl) (D6.out) ?_ ?_
        rotate_left
        · intro W hW
          go_simp
          with_reducible rfl
        simp only [Act.put, List.setIfInBounds_toArray, List.set_cons_zero, List.set_cons_succ]
        refine planG_nil ?_
        go_wp2_with fail
        go_ret
        exact ⟨rfl, BF.out⟩
    · go_wp2_with fail
      refine (CCB.out _ BT.out).mono ?_
      rw [show chk ms = 2 by first | exact CKB.out rfl | exact CKB.out trivial]
      rintro e wq2 ⟨rfl, hb⟩
      have BT := Lib.hid (BT.out.trans (hb.mono BT.out.size))
      clear hb
      go_wp2_with fail
      refine (one_true _).mono ?_
      rintro e wf ⟨rfl, hb⟩
      have BF := Lib.hid (BT.out.trans (hb.mono BT.out.size))
      clear hb
      go_wp2_with fail
      go_ret
      exact ⟨rfl, BF.out⟩
    ·
      go_wp2_with fail
      refine (one_true _).mono ?_
      rintro e wf ⟨rfl, hb⟩
      have BF := Lib.hid (BT.out.trans (hb.mono BT.out.size))
      clear hb
      go_wp2_with fail
      go_ret
      exact ⟨rfl, BF.out⟩
  · rcases EB.out with rfl | rfl | rfl
    · go_wp2_with fail
      refine (CCA.out _ BT.out).mono ?_
      rw [show chk zs = 2 by first | exact CKA.out rfl | exact CKA.out trivial]
      rintro e wq ⟨rfl, hb⟩
      have BT := Lib.hid (BT.out.trans (hb.mono BT.out.size))
      clear hb
      go_wp2_with fail
      refine (one_true _).mono ?_
      rintro e wf ⟨rfl, hb⟩
      have BF := Lib.hid (BT.out.trans (hb.mono BT.out.size))
      clear hb
      go_wp2_with fail
      go_ret
      exact ⟨rfl, BF.out⟩
    · go_wp2_with fail
      refine (CCA.out _ BT.out).mono ?_
      rw [show chk zs = 2 by first | exact CKA.out rfl | exact CKA.out trivial]
      rintro e wq ⟨rfl, hb⟩
      have BT := Lib.hid (BT.out.trans (hb.mono BT.out.size))
      clear hb
      go_wp2_with fail
      refine (CCB.out _ BT.out).mono ?_
      rw [show chk ms = 2 by first | exact CKB.out rfl | exact CKB.out trivial]
      rintro e wq2 ⟨rfl, hb⟩
      have BT := Lib.hid (BT.out.trans (hb.mono BT.out.size))
      clear hb
      go_wp2_with fail
      refine (one_true _).mono ?_
      rintro e wf ⟨rfl, hb⟩
      have BF := Lib.hid (BT.out.trans (hb.mono BT.out.size))
      clear hb
      go_wp2_with fail
      go_ret
      exact ⟨rfl, BF.out⟩
    · go_wp2_with fail
      refine (CCA.out _ BT.out).mono ?_
      rw [show chk zs = 2 by first | exact CKA.out rfl | exact CKA.out trivial]
      rintro e wq ⟨rfl, hb⟩
      have BT := Lib.hid (BT.out.trans (hb.mono BT.out.size))
      clear hb
      go_wp2_with fail
      refine (one_true _).mono ?_
      rintro e wf ⟨rfl, hb⟩
      have BF := Lib.hid (BT.out.trans (hb.mono BT.out.size))
      clear hb
      go_wp2_with fail
      go_ret
      exact ⟨rfl, BF.out⟩
  · rcases EB.out with rfl | rfl | rfl
    ·
      go_wp2_with fail
      refine (one_true _).mono ?_
      rintro e wf ⟨rfl, hb⟩
      have BF := Lib.hid (BT.out.trans (hb.mono BT.out.size))
      clear hb
      go_wp2_with fail
      go_ret
      exact ⟨rfl, BF.out⟩
    · go_wp2_with fail
      refine (CCB.out _ BT.out).mono ?_
      rw [show chk ms = 2 by first | exact CKB.out rfl | exact CKB.out trivial]
      rintro e wq2 ⟨rfl, hb⟩
      have BT := Lib.hid (BT.out.trans (hb.mono BT.out.size))
      clear hb
      go_wp2_with fail
      refine (one_true _).mono ?_
      rintro e wf ⟨rfl, hb⟩
      have BF := Lib.hid (BT.out.trans (hb.mono BT.out.size))
      clear hb
      go_wp2_with fail
      go_ret
      exact ⟨rfl, BF.out⟩
    ·
      go_wp2_with fail
      refine (one_true _).mono ?_
      rintro e wf ⟨rfl, hb⟩
      have BF := Lib.hid (BT.out.trans (hb.mono BT.out.size))
      clear hb
      go_wp2_with fail
      go_ret
      exact ⟨rfl, BF.out⟩
end Go.Proofs.Ytlocplkjokoknaa

/- How a law's arguments are opened: bytes behind a slice, an array of bytes by value, a number. No condition. -/
namespace Go.Proofs.Ytlocplkjokoknaa
set_option linter.unusedVariables false
set_option linter.unusedSimpArgs false
open Go.RowKit Go.ChangeShapes Go.WideShapes

theorem list_of_array {α : Type} (a : Array α) : a = a.toList.toArray := by simp
theorem bounds_i64 {z : Int} (h : (Lit.int .i64 z).wf = true) : -9223372036854775808 ≤ z ∧ z ≤ 9223372036854775807 := by
  simp only [Lit.wf, IntKind.min, IntKind.max, IntKind.signed, IntKind.bits, Bool.and_eq_true, decide_eq_true_eq, if_true] at h
  omega
theorem wf_u8_nat {z : Int} (h : (Lit.int .u8 z).wf = true) : ∃ x : UInt8, z = (x.toNat : Int) := by
  have hb := bounds_u8 h
  refine ⟨UInt8.ofNat z.toNat, ?_⟩
  simp
  omega
theorem wf_u32_nat {z : Int} (h : (Lit.int .u32 z).wf = true) : ∃ x : UInt32, z = (x.toNat : Int) := by
  have hb := bounds_u32 h
  refine ⟨UInt32.ofNat z.toNat, ?_⟩
  simp
  omega
theorem wf_u64_nat {z : Int} (h : (Lit.int .u64 z).wf = true) : ∃ x : UInt64, z = (x.toNat : Int) := by
  have hb := bounds_u64 h
  refine ⟨UInt64.ofNat z.toNat, ?_⟩
  simp
  omega
theorem list_u8 : ∀ (zs : List Int), (∀ z ∈ zs, (Lit.int .u8 z).wf = true) → ∃ l : List UInt8, zs = l.map fun x => (x.toNat : Int)
  | [], _ => ⟨[], rfl⟩
  | z :: r, h => by
    obtain ⟨x, hx⟩ := wf_u8_nat (h z (by simp))
    obtain ⟨l, hl⟩ := list_u8 r (fun y hy => h y (by simp [hy]))
    exact ⟨x :: l, by rw [hx, hl]; rfl⟩

section
variable {H : Type} {enc : TypeId × Value → H} {P : Program} {W : World} {b0 : Nat} {sp : Nat → Bool} {held : Bool}
theorem okWide_slice_lt {t e : TypeId} {r : Reach} {base : Nat} {x : Addr} {n c : Nat} (ht : P.underlying t = some (.slice e)) (hv : Value.okWide P W r base t (.slice (some x) n c)) : x.block < W.heap.size := by
  simp only [Value.okWide, ht, Cell.okWide, Cell.ok] at hv
  obtain ⟨_, _, _, _, row, cells, hs, _⟩ := hv
  unfold World.shape? at hs
  rcases Nat.lt_or_ge x.block W.heap.size with h | h
  · exact h
  · rw [Array.getElem?_eq_none h] at hs
    simp at hs
/-- []byte. -/
theorem open_bytes {t e : TypeId} {r : Reach} {base : Nat} {v : Value} {d : DataW H} {p : List MemPlace} (ht : P.underlying t = some (.slice e)) (he : P.underlying e = some (.int .u8)) (hc : P.cellsOf e = 1)
    (hv : Value.okWide P W r base t v) (h : DataW.Trod enc P W b0 sp held t v d p) :
    ∃ A c l, v = .slice A (List.length l) c ∧ RdB W A l ∧ l.length ≤ c ∧ c ≤ 9223372036854775807 ∧ (∀ a, A = some a → a.block < W.heap.size) := by
  obtain ⟨a, len, cap, rfl⟩ := okWide_slice ht hv
  obtain ⟨fuel, hf⟩ := h
  rcases open_ints ht he hc hf with ⟨hcs, _⟩ | ⟨x, l, c, zs, hcs, _, hl, hm, hz, _, hcell, hwz⟩
  · simp [Value.cells] at hcs
    obtain ⟨rfl, rfl, rfl⟩ := hcs
    exact ⟨none, 0, [], rfl, RdB.nil _ _, by simp, by simp, fun a e => by cases e⟩
  · simp [Value.cells] at hcs
    obtain ⟨rfl, rfl, rfl⟩ := hcs
    obtain ⟨l, hl'⟩ := list_u8 (zs.take len) (fun z hzz => hwz z (List.mem_of_mem_take hzz))
    have hlen : len ≤ zs.length := by
      rw [hz]; split
      · exact hl
      · exact Nat.le_refl _
    have hll : l.length = len := by
      have : (zs.take len).length = l.length := by rw [hl']; simp
      rw [List.length_take] at this
      omega
    rcases Nat.eq_zero_or_pos len with h0 | h0
    · obtain rfl : l = [] := List.eq_nil_of_length_eq_zero (by omega)
      subst h0
      by_cases hzl : 0 < zs.length
      · refine ⟨some x, cap, [], rfl, RdB.nil _ _, by simp, by simpa [maxLen] using hm, fun a e => ?_⟩
        cases e
        have := World.block_lt_of_cell? W _ (hcell 0 hzl)
        simpa [Addr.add] using this
      · refine ⟨some x, cap, [], rfl, RdB.nil _ _, by simp, by simpa [maxLen] using hm, fun a e => ?_⟩
        cases e
        exact okWide_slice_lt ht hv
    · have hx : x.spot = none := by
        have := hcell 0 (by omega)
        unfold World.cell? at this
        by_cases hs : x.spot = none
        · exact hs
        · exfalso
          have h1 : ((x.add 0).spot.isSome) = true := by
            simp [Addr.add]
            cases hsp : x.spot with
            | none => exact absurd hsp hs
            | some _ => rfl
          rw [h1] at this
          split at this <;> simp at this
      obtain ⟨bb, oo, ss⟩ := x
      simp at hx
      subst hx
      refine ⟨some ⟨bb, oo, none⟩, cap, l, by rw [hll], fun j hj => ⟨bb, oo, rfl, ?_⟩, by omega, by simpa [maxLen] using hm, fun a e => ?_⟩
      · have := hcell j (by omega)
        rw [add_at] at this
        rw [this]
        congr 2
        have h3 : zs.getD j 0 = (zs.take len).getD j 0 := by
          rw [List.getD_eq_getElem?_getD, List.getD_eq_getElem?_getD, List.getElem?_take, if_pos (by omega)]
        rw [h3, hl', List.getD_eq_getElem?_getD, List.getD_eq_getElem?_getD, List.getElem?_map, List.getElem?_eq_getElem hj]
        rfl
      · cases e
        have := World.block_lt_of_cell? W _ (hcell 0 (by omega))
        simpa [Addr.add] using this
/-- [n]byte, by value. -/
theorem open_barr {t e n : Nat} {r : Reach} {base : Nat} {v : Value} {d : DataW H} {p : List MemPlace} (ht : P.underlying t = some (.array n e)) (he : P.underlying e = some (.int .u8)) (hc : P.cellsOf e = 1) (hct : P.cellsOf t = n)
    (hv : Value.okWide P W r base t v) (h : DataW.Trod enc P W b0 sp held t v d p) : ∃ l : List UInt8, l.length = n ∧ v = .agg (W8 l) := by
  simp only [Value.okWide, ht] at hv
  obtain ⟨cs, rfl, h2, _⟩ := hv
  obtain ⟨fuel, hf⟩ := h
  obtain ⟨xs, m, _, _, _, hxl, hel⟩ := DataW.trod_array ht hf
  have hcs : (Value.agg cs).cells = cs := rfl
  rw [hcs] at hel
  have key : ∀ i, i < n → ∃ x : UInt8, cs.toList[i]? = some (.int .u8 (x.toNat : Int)) := by
    intro i hi
    have := hel i hi
    rw [hc, Nat.mul_one, List.getElem?_eq_getElem (show i < xs.length by omega)] at this
    obtain ⟨z, hz, _, hw⟩ := DataW.trod_int he this
    obtain ⟨x, hx⟩ := wf_u8_nat hw
    refine ⟨x, ?_⟩
    rw [← hx]
    have h3 : (cs.toList.drop i).take 1 = [.int .u8 z] := hz
    have h4 : ((cs.toList.drop i).take 1)[0]? = some (.int .u8 z) := by rw [h3]; rfl
    simpa [List.getElem?_take, List.getElem?_drop] using h4
  refine ⟨cs.toList.map fun v => match v with | .int _ z => UInt8.ofNat z.toNat | _ => 0, by simp [h2, hct], ?_⟩
  rw [W8, List.map_map]
  congr 1
  conv => lhs; rw [list_of_array cs]
  congr 1
  apply List.ext_getElem?
  intro i
  rw [List.getElem?_map]
  by_cases hi : i < n
  · obtain ⟨x, hx⟩ := key i hi
    rw [hx]
    simp
  · rw [List.getElem?_eq_none (by simp [h2, hct]; omega)]
    rfl
end
end Go.Proofs.Ytlocplkjokoknaa

/- Openers of arguments: rows of integers. No condition. -/
namespace Go.Proofs.Ytlocplkjokoknaa
set_option linter.unusedVariables false
set_option linter.unusedSimpArgs false
open Go.ChangeShapes Go.WideShapes Go.ChangeAt Go.RowKit
section
variable {H : Type} {enc : TypeId × Value → H} {P : Program} {W : World} {b0 : Nat} {sp : Nat → Bool} {held : Bool}
/-- []int and the like. -/
theorem open_islice {t e : TypeId} {k : IntKind} {r : Reach} {base : Nat} {v : Value} {d : DataW H} {p : List MemPlace} (ht : P.underlying t = some (.slice e)) (he : P.underlying e = some (.int k)) (hc : P.cellsOf e = 1)
    (hv : Value.okWide P W r base t v) (h : DataW.Trod enc P W b0 sp held t v d p) :
    ∃ A c zs, v = .slice A (List.length zs) c ∧ RdV W A (zs.map (Value.int k)) ∧ zs.length ≤ c ∧ c ≤ 9223372036854775807 ∧ (∀ a, A = some a → a.block < W.heap.size) ∧ (∀ z ∈ zs, (Lit.int k z).wf = true) := by
  obtain ⟨a, len, cap, rfl⟩ := okWide_slice ht hv
  obtain ⟨fuel, hf⟩ := h
  rcases open_ints ht he hc hf with ⟨hcs, _⟩ | ⟨x, l, c, zs, hcs, _, hl, hm, hz, _, hcell, hwz⟩
  · simp [Value.cells] at hcs
    obtain ⟨rfl, rfl, rfl⟩ := hcs
    exact ⟨none, 0, [], rfl, RdV.nil _ _, by simp, by simp, (fun a e => by cases e), (fun z hz => by cases hz)⟩
  · simp [Value.cells] at hcs
    obtain ⟨rfl, rfl, rfl⟩ := hcs
    have hlen : len ≤ zs.length := by
      rw [hz]; split
      · exact hl
      · exact Nat.le_refl _
    have hll : (zs.take len).length = len := by rw [List.length_take]; omega
    refine ⟨some x, cap, zs.take len, by rw [hll], ?_, by omega, by simpa [maxLen] using hm, fun a e => ?_, fun z hzz => hwz z (List.mem_of_mem_take hzz)⟩
    · intro j u hj
      have h1 : j < (zs.take len).length := by
        have := (List.getElem?_eq_some_iff.1 hj).1
        simpa using this
      have hx : x.spot = none := by
        have := hcell 0 (by omega)
        unfold World.cell? at this
        by_cases hs : x.spot = none
        · exact hs
        · exfalso
          have h1 : ((x.add 0).spot.isSome) = true := by
            simp [Addr.add]
            cases hsp : x.spot with
            | none => exact absurd hsp hs
            | some _ => rfl
          rw [h1] at this
          split at this <;> simp at this
      obtain ⟨bb, oo, ss⟩ := x
      simp at hx
      subst hx
      refine ⟨bb, oo, rfl, ?_⟩
      have := hcell j (by omega)
      rw [add_at] at this
      rw [this, ← hj, List.getElem?_map, List.getElem?_take, if_pos (by omega), List.getElem?_eq_getElem (by omega), List.getD_eq_getElem?_getD, List.getElem?_eq_getElem (by omega)]
      rfl
    · cases e
      exact okWide_slice_lt ht hv
theorem spot_none {w : World} {a : Addr} {v : Value} (h : w.cell? a = some v) : a.spot = none := by
  unfold World.cell? at h
  cases hs : a.spot with
  | none => rfl
  | some x =>
    exfalso
    have h1 : (a.spot.isSome) = true := by rw [hs]; rfl
    rw [h1] at h
    split at h <;> simp at h
theorem spot_none_zero {w : World} {a : Addr} {v : Value} (h : w.cell? (a.add 0) = some v) : a.spot = none := by
  have h1 : a.add 0 = a := by unfold Addr.add; simp
  rw [h1] at h
  exact spot_none h
/-- [][]byte. -/
theorem open_bytess {t e q : TypeId} {r : Reach} {base : Nat} {v : Value} {d : DataW H} {p : List MemPlace} (ht : P.underlying t = some (.slice e)) (he : P.underlying e = some (.slice q)) (hq : P.underlying q = some (.int .u8)) (ce : P.cellsOf e = 1) (cq : P.cellsOf q = 1)
    (hv : Value.okWide P W r base t v) (h : DataW.Trod enc P W b0 (fun _ => true) held t v d p) :
    ∃ A c vs ls, v = .slice A (List.length vs) c ∧ RdV W A vs ∧ vs.length ≤ c ∧ c ≤ 9223372036854775807 ∧ All2 (SlB W) vs ls ∧ ls.length = vs.length ∧ ∀ l ∈ ls, l.length ≤ 9223372036854775807 := by
  obtain ⟨a, len, cap, rfl⟩ := okWide_slice ht hv
  obtain ⟨fuel, hf⟩ := h
  rcases Go.Deep.open_int_rows ht he hq ce cq hf with ⟨hcs, _⟩ | ⟨x, l, c, A, L, C, Z, hcs, _, hl, hm, _, hrow⟩
  · simp [Value.cells] at hcs
    obtain ⟨rfl, rfl, rfl⟩ := hcs
    exact ⟨none, 0, [], [], rfl, RdV.nil _ _, by simp, by simp, .nil, rfl, by simp⟩
  · simp [Value.cells] at hcs
    obtain ⟨rfl, rfl, rfl⟩ := hcs
    have key : ∀ m, m ≤ len → ∃ ls : List (List UInt8), ls.length = m ∧ All2 (SlB W) ((List.range m).map fun r => Value.slice (A r) (L r) (C r)) ls ∧ ∀ l ∈ ls, l.length ≤ 9223372036854775807 := by
      intro m
      induction m with
      | zero => intro _; exact ⟨[], rfl, .nil, by simp⟩
      | succ m ih =>
        intro hm'
        obtain ⟨ls, hls, hall, hmx⟩ := ih (by omega)
        obtain ⟨hcell, hLC, hCm, hZl, hwf, hnone, hsome⟩ := hrow m (by omega)
        obtain ⟨bs, hbs⟩ := list_u8 ((Z m).take (L m)) (fun z hz => hwf z (List.mem_of_mem_take hz))
        have hbl : bs.length = L m := by
          have : ((Z m).take (L m)).length = bs.length := by rw [hbs]; simp
          rw [List.length_take] at this
          omega
        refine ⟨ls ++ [bs], by simp [hls], ?_, fun l hl => ?_⟩
        rotate_left
        · rcases List.mem_append.1 hl with h | h
          · exact hmx l h
          · obtain rfl : l = bs := by simpa using h
            have : maxLen = 9223372036854775807 := rfl
            omega
        rw [List.range_succ, List.map_append]
        refine hall.snoc ⟨A m, C m, by rw [hbl], by omega, fun j hj => ?_⟩
        rcases hA : A m with _ | a'
        · have := hnone hA; omega
        · obtain ⟨_, hc⟩ := hsome a' hA
          have h1 := hc j (by omega)
          have hs := spot_none_zero (hc 0 (by omega))
          obtain ⟨bb, oo, ss⟩ := a'
          simp at hs
          subst hs
          refine ⟨bb, oo, rfl, ?_⟩
          rw [add_at] at h1
          rw [h1]
          congr 2
          have h3 : (Z m).getD j 0 = ((Z m).take (L m)).getD j 0 := by
            rw [List.getD_eq_getElem?_getD, List.getD_eq_getElem?_getD, List.getElem?_take, if_pos (by omega)]
          rw [h3, hbs, List.getD_eq_getElem?_getD, List.getD_eq_getElem?_getD, List.getElem?_map, List.getElem?_eq_getElem hj]
          rfl
    obtain ⟨ls, hls, hall, hmx⟩ := key len (Nat.le_refl _)
    refine ⟨some x, cap, (List.range len).map fun r => Value.slice (A r) (L r) (C r), ls, by simp, ?_, by simpa using hl, by simpa [maxLen] using hm, hall, by simp [hls], hmx⟩
    intro j v hj
    have hjl : j < len := by
      have := (List.getElem?_eq_some_iff.1 hj).1
      simpa using this
    obtain ⟨hcell, _⟩ := hrow j (by omega)
    have hs := spot_none_zero (hrow 0 (by omega)).1
    obtain ⟨bb, oo, ss⟩ := x
    simp at hs
    subst hs
    rw [List.getElem?_map, List.getElem?_range hjl] at hj
    simp at hj
    subst hj
    refine ⟨bb, oo, rfl, ?_⟩
    rw [add_at] at hcell
    exact hcell
theorem lits_length {k : IntKind} (zs : List Int) : (lits (H := H) k zs).length = zs.length := by simp [lits]
/-- How long a text that came in is at most. -/
theorem len_bytes {t e : TypeId} {k : IntKind} {d : DataW H} {p : List MemPlace} {A : Option Addr} {n c : Nat} (ht : P.underlying t = some (.slice e)) (he : P.underlying e = some (.int k)) (hc : P.cellsOf e = 1) (hbo : 0 < P.bytesOf e)
    (h : DataW.Trod enc P W b0 sp held t (.slice A n c) d p) (hw : ∀ el s, d = .slice el s → (el.length + s.length) * P.bytesOf e ≤ reachBytes) : n ≤ 140737488351232 := by
  obtain ⟨fuel, hf⟩ := h
  rcases open_ints ht he hc hf with ⟨hcs, _⟩ | ⟨x, l, c, zs, hcs, _, hl, hm, hz, hx, _, _⟩
  · simp [Value.cells] at hcs
    omega
  · simp [Value.cells] at hcs
    obtain ⟨rfl, rfl, rfl⟩ := hcs
    have h1 := hw _ _ (congrArg Prod.fst hx)
    rw [lits_length, lits_length] at h1
    have h2 : (List.take n zs).length + (List.drop n zs).length = zs.length := by simp; omega
    have h3 : n ≤ zs.length := by
      rw [hz]; split
      · exact hl
      · exact Nat.le_refl _
    rw [h2] at h1
    have h4 : zs.length ≤ zs.length * P.bytesOf e := Nat.le_mul_of_pos_right _ hbo
    unfold reachBytes at h1
    omega
/-- .. and how many texts. -/
theorem len_bytess {t e q : TypeId} {d : DataW H} {p : List MemPlace} {A : Option Addr} {n c : Nat} (ht : P.underlying t = some (.slice e)) (he : P.underlying e = some (.slice q)) (hq : P.underlying q = some (.int .u8)) (ce : P.cellsOf e = 1) (cq : P.cellsOf q = 1) (hbo : 0 < P.bytesOf e)
    (h : DataW.Trod enc P W b0 (fun _ => true) held t (.slice A n c) d p) (hw : ∀ el s, d = .slice el s → (el.length + s.length) * P.bytesOf e ≤ reachBytes) : n ≤ 140737488351232 := by
  obtain ⟨fuel, hf⟩ := h
  rcases Go.Deep.open_int_rows ht he hq ce cq hf with ⟨hcs, _⟩ | ⟨x, l, c, A', L, C, Z, hcs, _, hl, hm, hx, _⟩
  · simp [Value.cells] at hcs
    omega
  · simp [Value.cells] at hcs
    obtain ⟨rfl, rfl, rfl⟩ := hcs
    have h1 := hw _ _ (congrArg Prod.fst hx)
    rw [List.length_map, List.length_map, List.length_range, List.length_range] at h1
    have h2 : n + (c - n) = c := by omega
    rw [h2] at h1
    have h4 : c ≤ c * P.bytesOf e := Nat.le_mul_of_pos_right _ hbo
    unfold reachBytes at h1
    omega
end
end Go.Proofs.Ytlocplkjokoknaa

/- Openers of arguments: rows of structs of a whole number, a key of 32 bytes, and yes or no. No condition. -/
namespace Go.Proofs.Ytlocplkjokoknaa
set_option linter.unusedVariables false
set_option linter.unusedSimpArgs false
open Go.ChangeShapes Go.WideShapes Go.ChangeAt Go.RowKit Go.Deep
section
variable {H : Type} {enc : TypeId × Value → H} {P : Program} {W : World} {b0 : Nat} {sp : Nat → Bool} {held : Bool}
/-- An array of bytes in cells. -/
theorem trod_bytes {t e n fuel : Nat} {cs : List Value} {x : DataW H × List MemPlace} (ht : P.underlying t = some (.array n e)) (he : P.underlying e = some (.int .u8)) (hc : P.cellsOf e = 1) (hl : cs.length = n)
    (h : DataW.trod enc P W b0 sp held fuel t cs = some x) : ∃ l : List UInt8, l.length = n ∧ cs = B8 l := by
  obtain ⟨xs, m, _, _, _, hxl, hel⟩ := DataW.trod_array ht h
  have key : ∀ i, i < n → ∃ x : UInt8, cs[i]? = some (.int .u8 (x.toNat : Int)) := by
    intro i hi
    have := hel i hi
    rw [hc, Nat.mul_one, List.getElem?_eq_getElem (show i < xs.length by omega)] at this
    obtain ⟨z, hz, _, hw⟩ := DataW.trod_int he this
    obtain ⟨x, hx⟩ := wf_u8_nat hw
    refine ⟨x, ?_⟩
    rw [← hx]
    have h3 : (cs.drop i).take 1 = [.int .u8 z] := hz
    have h4 : ((cs.drop i).take 1)[0]? = some (.int .u8 z) := by rw [h3]; rfl
    simpa [List.getElem?_take, List.getElem?_drop] using h4
  refine ⟨cs.map fun v => match v with | .int _ z => UInt8.ofNat z.toNat | _ => 0, by simp [hl], ?_⟩
  apply List.ext_getElem?
  intro i
  rcases Nat.lt_or_ge i n with hi | hi
  · obtain ⟨x, hx⟩ := key i hi
    rw [hx, B8, List.getElem?_map, List.getElem?_map, hx]
    simp
  · rw [List.getElem?_eq_none (by omega), List.getElem?_eq_none (by simp [B8]; omega)]
theorem open_mems {t e eb : TypeId} {f0 f1 f2 : Field} {r : Reach} {base : Nat} {v : Value} {d : DataW H} {p : List MemPlace} (ht : P.underlying t = some (.slice e)) (he : P.underlying e = some (.struct #[f0, f1, f2])) (ce : P.cellsOf e = 34)
    (ho : f0.offset = 0 ∧ f1.offset = 1 ∧ f2.offset = 33) (hc : P.cellsOf f0.type = 1 ∧ P.cellsOf f1.type = 32 ∧ P.cellsOf f2.type = 1)
    (h0 : P.underlying f0.type = some (.int .i64)) (h1 : P.underlying f1.type = some (.array 32 eb)) (h2 : P.underlying f2.type = some .bool) (hb : P.underlying eb = some (.int .u8)) (hcb : P.cellsOf eb = 1)
    (hv : Value.okWide P W r base t v) (h : DataW.Trod enc P W b0 sp held t v d p) :
    ∃ A c zs, v = .slice A (List.length zs) c ∧ RdM W A zs ∧ zs.length ≤ c ∧ (zs ≠ [] → ∀ a, A = some a → a.block < W.heap.size) := by
  obtain ⟨a, len, cap, rfl⟩ := okWide_slice ht hv
  obtain ⟨fuel, hf⟩ := h
  rcases Go.Deep.open_slice ht hf with ⟨hcs, _⟩ | ⟨x, l, c, m, n, D, Pl, hcs, _, hl, hm, hmm, _, hrow⟩
  · simp [Value.cells] at hcs
    obtain ⟨rfl, rfl, rfl⟩ := hcs
    exact ⟨none, 0, [], rfl, RdM.nil _ _, by simp, fun hh => absurd rfl hh⟩
  · simp [Value.cells] at hcs
    obtain ⟨rfl, rfl, rfl⟩ := hcs
    have hlm : len ≤ m := by rw [hmm]; split <;> omega
    obtain ⟨o0, o1, o2⟩ := ho
    obtain ⟨c0, c1, c2⟩ := hc
    have hx : 0 < len → x.spot = none := by
      intro h0
      obtain ⟨cs', g1, _⟩ := hrow 0 (by omega)
      rw [ce] at g1
      obtain ⟨_, hlen, hcell⟩ := World.cells?_some g1
      have e0 := hcell 0 (by omega)
      rw [Nat.zero_mul] at e0
      have ea : (x.add 0).add 0 = x := by unfold Addr.add; simp
      rw [ea, List.getElem?_eq_getElem (by omega)] at e0
      exact spot_none e0
    have each : ∀ i, i < len → ∃ z : Mem, OkM z ∧ ∃ b o, some x = some (⟨b, o, none⟩ : Addr) ∧ W.rangeAt b (o + i * 34) (RowM z) := by
      intro i hi
      obtain ⟨cs', g1, g2⟩ := hrow i (by omega)
      rw [ce] at g1
      obtain ⟨_, hlen, hcell⟩ := World.cells?_some g1
      obtain ⟨xs, k, hk, hxy, _, hxl, hfl⟩ := DataW.trod_struct he g2
      match xs, hxl with
      | [y0, y1, y2], _ =>
        have t0 := hfl 0 f0 rfl
        have t1 := hfl 1 f1 rfl
        have t2 := hfl 2 f2 rfl
        simp [o0, o1, o2, c0, c1, c2] at t0 t1 t2
        obtain ⟨z0, hz0, _, w0⟩ := DataW.trod_int h0 t0
        obtain ⟨kk, hkl, hkk⟩ := trod_bytes h1 hb hcb (by simp; omega) t1
        obtain ⟨q2, hq2, _⟩ := DataW.trod_bool h2 t2
        have hs := hx (by omega)
        obtain ⟨bb, oo, ss⟩ := x
        simp only at hs
        subst hs
        have hrowM : cs' = RowM ⟨z0, kk, q2⟩ := by
          have e1 : cs' = cs'.take 1 ++ ((cs'.drop 1).take 32 ++ (cs'.drop 33).take 1) := by
            have e3 : (cs'.drop 33).take 1 = cs'.drop 33 := List.take_of_length_le (by simp; omega)
            have e4 : cs'.drop 1 = (cs'.drop 1).take 32 ++ (cs'.drop 1).drop 32 := (List.take_append_drop 32 _).symm
            rw [e3, show cs'.drop 33 = (cs'.drop 1).drop 32 by rw [List.drop_drop], ← e4, List.take_append_drop]
          rw [e1, hz0, List.drop_one, hkk, hq2]
          rfl
        refine ⟨⟨z0, kk, q2⟩, ⟨hkl, bounds_i64 w0⟩, bb, oo, rfl, fun j v hj => ?_⟩
        rw [← hrowM] at hj
        have hcj := hcell j (by rw [← hlen]; exact (List.getElem?_eq_some_iff.1 hj).1)
        rw [add_at, add_at] at hcj
        rw [hcj, ← hj]
    have key : ∀ q, q ≤ len → ∃ zs : List Mem, zs.length = q ∧ RdM W (some x) zs := by
      intro q
      induction q with
      | zero => intro _; exact ⟨[], rfl, RdM.nil _ _⟩
      | succ q ih =>
        intro hq
        obtain ⟨zs, hzs, hrd⟩ := ih (by omega)
        obtain ⟨z, hz⟩ := each q (by omega)
        refine ⟨zs ++ [z], by simp [hzs], fun j y hj => ?_⟩
        by_cases hlt : j < zs.length
        · rw [List.getElem?_append_left hlt] at hj
          exact hrd j y hj
        · have hj2 : j = q := by
            have := (List.getElem?_eq_some_iff.1 hj).1
            simp at this
            omega
          subst hj2
          rw [List.getElem?_append_right (by omega), hzs] at hj
          simp at hj
          subst hj
          exact hz
    obtain ⟨zs, hzs, hrd⟩ := key len (Nat.le_refl _)
    refine ⟨some x, cap, zs, by rw [hzs], hrd, by rw [hzs]; exact hl, fun hne a ha => ?_⟩
    obtain ⟨z, hz⟩ : ∃ z, zs[0]? = some z := by
      cases zs with
      | nil => exact absurd rfl hne
      | cons z l => exact ⟨z, rfl⟩
    obtain ⟨_, b, o, e, hr⟩ := hrd 0 z hz
    have h3 := World.block_lt_of_cell? W _ (hr 0 _ rfl)
    rw [ha] at e
    cases e
    exact h3
end
end Go.Proofs.Ytlocplkjokoknaa
