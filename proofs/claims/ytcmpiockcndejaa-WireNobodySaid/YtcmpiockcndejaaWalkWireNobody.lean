/- The law WireNobody, walked. -/
import Derived.Test.YtcmpiockcndejaaRdrList
import Derived.Test.YtcmpiockcndejaaWireOne
namespace Go.Proofs.Ytcmpiockcndejaa
set_option linter.unusedVariables false
set_option linter.unusedSimpArgs false
open Go.RowKit
attribute [local go_sem ↓] Go.wp_at_zero Go.wp_at_succ

set_option maxRecDepth 100000 in
set_option maxHeartbeats 1000000 in
theorem often_nil (f : Value) (w : World) : Calls Try.prog 36 #[.pointer none, .int .i64 0, f] w fun e w' => e = .returned (.tuple #[]) ∧ w' = w := by
  go_enter Try.func36, Try.ntmps36
  go_wp2_with fail
  go_loopw [6] (fun i wr => i = .int .i64 0 ∧ wr = w) (fun _ _ => 0)
  case atStart => exact ⟨rfl, rfl⟩
  case round =>
    obtain ⟨rfl, hw⟩ := hrel
    rw [hw]
    go_wp2_with fail
    go_end0
    exact ⟨rfl, rfl⟩
set_option maxRecDepth 100000 in
set_option maxHeartbeats 4000000 in
theorem rlist_nil (most : Int) (w : World) :
    Calls Try.prog 27 #[.pointer none, .int .i64 most] w fun e w' => e = .returned (.slice none 0 0) ∧ Below w.heap.size w w' := by
  go_enter Try.func27, Try.ntmps27
  go_upto_region 1 with fail
  generalize hB : Array.size (World.heap w) = Bx
  generalize hw : World.alloc w _ = w1
  have BX := Lib.hid (show w1.heap[Bx]? = some (.cells #[.pointer none] 25 (0, 0)) by rw [← hw]; exact ha_new _ _ _ hB.symm)
  have S := Lib.hid (show Below w.heap.size w w1 by rw [← hw]; exact below_new _ _)
  have a1 := row_cell BX.out 0 rfl
  clear hB hw
  go_wp2_with fail
  refine (num_nil 2 (by omega) w1).mono ?_
  rintro e w2 ⟨rfl, hw⟩
  rw [hw]
  clear hw w2
  go_wp2_with fail
  refine (fine_nil w1).mono ?_
  rintro e w2 ⟨rfl, hw⟩
  rw [hw]
  clear hw w2
  by_cases hm : most < 0
  · have hD : decide (most < (0 : Int)) = true := by simp; omega
    go_wp2_with fail
    refine (fail_nil w1 3).mono ?_
    rintro e w2 ⟨rfl, hw⟩
    rw [hw]
    clear hw w2
    go_upto_region 5 with fail
    generalize hC : Array.size (World.heap w1) = C
    generalize hw : World.alloc w1 _ = w3
    have hb : Below w1.heap.size w1 w3 := by rw [← hw]; exact below_new _ _
    have CC := Lib.hid (show w3.heap[C]? = some (.cells #[.slice none 0 0] 34 (0, 0)) by rw [← hw]; exact ha_new _ _ _ hC.symm)
    have BX3 := Lib.hid (below_block hb (row_lt BX.out) BX.out)
    have S3 := Lib.hid (S.out.trans (hb.mono S.out.size))
    have a3 := row_cell BX3.out 0 rfl
    have b3 := row_cell CC.out 0 rfl
    clear hC hw hb
    go_wp2_with fail
    refine (often_nil _ w3).mono ?_
    rintro e w4 ⟨rfl, hw⟩
    rw [hw]
    clear hw w4
    go_wp2_with fail
    refine (fine_nil w3).mono ?_
    rintro e w4 ⟨rfl, hw⟩
    rw [hw]
    clear hw w4
    go_wp2_with fail
    go_ret
    exact ⟨rfl, S3.out⟩
  · have hD : decide (most < (0 : Int)) = false := by simp; omega
    go_upto_region 5 with fail
    generalize hC : Array.size (World.heap w1) = C
    generalize hw : World.alloc w1 _ = w3
    have hb : Below w1.heap.size w1 w3 := by rw [← hw]; exact below_new _ _
    have CC := Lib.hid (show w3.heap[C]? = some (.cells #[.slice none 0 0] 34 (0, 0)) by rw [← hw]; exact ha_new _ _ _ hC.symm)
    have BX3 := Lib.hid (below_block hb (row_lt BX.out) BX.out)
    have S3 := Lib.hid (S.out.trans (hb.mono S.out.size))
    have a3 := row_cell BX3.out 0 rfl
    have b3 := row_cell CC.out 0 rfl
    clear hC hw hb
    go_wp2_with fail
    refine (often_nil _ w3).mono ?_
    rintro e w4 ⟨rfl, hw⟩
    rw [hw]
    clear hw w4
    go_wp2_with fail
    refine (fine_nil w3).mono ?_
    rintro e w4 ⟨rfl, hw⟩
    rw [hw]
    clear hw w4
    go_wp2_with fail
    go_ret
    exact ⟨rfl, S3.out⟩
theorem takeS_nil (s : RSt) (n : Int) (h : s.l = []) : (takeS s n).2.1 = [] ∧ (takeS s n).1.l = [] := by
  unfold takeS
  split
  · exact ⟨rfl, h⟩
  · split
    · exact ⟨rfl, rfl⟩
    · simp [h]
theorem numS_nil (s : RSt) (n : Int) (h : s.l = []) : (numS s n).2 = 0 ∧ (numS s n).1.l = [] := by
  have := takeS_nil s (min n 8) h
  unfold numS
  rw [this.1]
  exact ⟨rfl, this.2⟩
theorem sizedS_nil (s : RSt) (h : s.l = []) : (sizedS s).2 = [] ∧ (sizedS s).1.l = [] := by
  have h1 := numS_nil s 4 h
  have h2 := takeS_nil (numS s 4).1 ((numS s 4).2 : Int) h1.2
  unfold sizedS
  rw [if_neg (by rw [h1.1]; omega)]
  exact h2
theorem listS_nil (s : RSt) (n : Int) (h : s.l = []) : (listS s n).2 = [] ∧ (listS s n).1.l = [] := by
  have h1 := numS_nil s 2 h
  have h2 : (headS s n).2 = 0 ∧ (headS s n).1.l = [] := by
    unfold headS
    split
    · exact ⟨h1.1, rfl⟩
    · exact h1
  unfold listS
  rw [h2.1]
  rw [show oftenS 0 (headS s n).1 [] = ((headS s n).1, []) from rfl]
  split <;> exact ⟨rfl, h2.2⟩
set_option maxRecDepth 100000 in
set_option maxHeartbeats 4000000 in
theorem wireNobody_walk (w : World) (a b : Int) (ha : -9223372036854775808 ≤ a ∧ a ≤ 9223372036854775807) (hb : -9223372036854775808 ≤ b ∧ b ≤ 9223372036854775807) :
    Calls Try.prog 6 #[.agg #[.int .i64 a, .int .i64 b]] w fun e w' => e = .returned (.bool true) ∧ Below w.heap.size w w' := by
  have BB := Lib.hid hb
  clear ha hb
  go_enter Try.func6, Try.ntmps6
  go_upto_region 1 with fail
  generalize hM : Array.size (World.heap w) = M
  generalize hw : World.alloc w _ = w1
  have PM := Lib.hid (show w1.heap[M]? = some (.cells #[.int .i64 a, .int .i64 b] 48 (0, 0)) by rw [← hw]; exact ha_new _ _ _ hM.symm)
  have MW := Lib.hid hM
  have S := Lib.hid (show Below w.heap.size w w1 by rw [← hw]; exact below_new _ _)
  clear hM hw
  go_wp2_with fail
  go_loopw [3] (fun i wr => ∃ j : Nat, j ≤ 2 ∧ i = .int .i64 (j : Int) ∧ wr.heap[M]? = some (.cells #[.int .i64 a, .int .i64 b] 48 (0, 0)) ∧ Below w.heap.size w wr) (fun i _ => 2 - (intOf i).toNat)
  case atStart => exact ⟨0, by omega, rfl, PM.out, S.out⟩
  case round =>
    obtain ⟨j, hj, rfl, hp, hbel⟩ := hrel
    have P := Lib.hid hp
    have S := Lib.hid hbel
    have a1 := row_cell hp 1 rfl
    have PL := Lib.hid (row_lt hp)
    clear hp hbel PM
    by_cases h0 : j = 0
    · subst h0
      go_upto_region 7 with fail
      generalize hG : Array.size (World.heap wr) = g
      generalize hw : World.alloc wr _ = w2
      have hb : Below wr.heap.size wr w2 := by rw [← hw]; exact below_new _ _
      have GM := Lib.hid (show M ≠ g by have := PL.out; omega)
      have GW := Lib.hid (show w.heap.size ≤ g by have := S.out.size; omega)
      have P := Lib.hid (below_block hb (row_lt P.out) P.out)
      have S := Lib.hid (S.out.trans (hb.mono S.out.size))
      have R := Lib.hid (show Rdr g M ⟨[], 0⟩ w2 from ⟨⟨none, 0, by rw [← hw]; exact ha_new _ _ _ hG.symm, Nat.le_refl _, RdB.nil _ _, fun a e => by cases e⟩, .inl rfl, by simp⟩)
      have a1 := row_cell P.out 1 rfl
      clear hG hw hb PL
      go_wp2_with fail
      refine (num_any g M ⟨[], 0⟩ b BB.out w2 R.out).mono ?_
      have hn := numS_nil ⟨[], 0⟩ b rfl
      rw [hn.1]
      obtain ⟨s1, hs1⟩ : ∃ s1, s1 = (numS ⟨[], 0⟩ b).1 := ⟨_, rfl⟩
      rw [← hs1]
      have N1 := Lib.hid (show s1.l = [] by rw [hs1]; exact hn.2)
      clear hn hs1
      rintro e w3 ⟨rfl, hr, hg⟩
      have R := Lib.hid hr
      have P := Lib.hid (grown_block hg (by have := GM.out; simpa using this) P.out)
      have S := Lib.hid (S.out.trans (grown_below hg S.out.size (by rintro k ⟨⟩; exact GW.out)))
      clear hr hg a1
      have a1 := row_cell P.out 1 rfl
      go_wp2_with fail
      refine (raw_any g M s1 b w3 R.out).mono ?_
      have hn := takeS_nil s1 b N1.out
      rw [hn.1]
      obtain ⟨s2, hs1⟩ : ∃ s2, s2 = (takeS s1 b).1 := ⟨_, rfl⟩
      rw [← hs1]
      have N2 := Lib.hid (show s2.l = [] by rw [hs1]; exact hn.2)
      clear hn hs1
      rintro e w4 ⟨⟨v, rfl, ho⟩, hr, hg⟩
      have R := Lib.hid hr
      have P := Lib.hid (grown_block hg (by have := GM.out; simpa using this) P.out)
      have S := Lib.hid (S.out.trans (grown_below hg S.out.size (by rintro k ⟨⟩; exact GW.out)))
      obtain ⟨Av, cv, rfl, _⟩ := ho.read
      clear hr hg ho a1
      have a1 := row_cell P.out 1 rfl
      go_wp2_with fail
      refine (rsz_any g M s2 w4 R.out).mono ?_
      have hn := sizedS_nil s2 N2.out
      rw [hn.1]
      obtain ⟨s3, hs1⟩ : ∃ s3, s3 = (sizedS s2).1 := ⟨_, rfl⟩
      rw [← hs1]
      have N3 := Lib.hid (show s3.l = [] by rw [hs1]; exact hn.2)
      clear hn hs1
      rintro e w5 ⟨⟨v, rfl, ho⟩, hr, hg⟩
      have R := Lib.hid hr
      have P := Lib.hid (grown_block hg (by have := GM.out; simpa using this) P.out)
      have S := Lib.hid (S.out.trans (grown_below hg S.out.size (by rintro k ⟨⟩; exact GW.out)))
      obtain ⟨Av, cv, rfl, _⟩ := ho.read
      clear hr hg ho a1
      have a1 := row_cell P.out 1 rfl
      go_wp2_with fail
      refine (rlist_any g M s3 b BB.out w5 R.out (row_lt P.out)).mono ?_
      have hn := listS_nil s3 b N3.out
      rw [hn.1]
      obtain ⟨s4, hs1⟩ : ∃ s4, s4 = (listS s3 b).1 := ⟨_, rfl⟩
      rw [← hs1]
      have N4 := Lib.hid (show s4.l = [] by rw [hs1]; exact hn.2)
      clear hn hs1
      rintro e w6 ⟨⟨Al, cl, vl, rfl, _, _, ha⟩, hr, hg⟩
      have hv0 : vl.length = 0 := ha.length
      rw [hv0]
      have R := Lib.hid hr
      have P := Lib.hid (grown_block hg (by have := GM.out; simpa using this) P.out)
      have S := Lib.hid (S.out.trans (grown_below hg S.out.size (by rintro k ⟨⟩; exact GW.out)))
      clear hr hg a1 ha hv0
      go_wp2_with fail
      refine (left_any g M s4 w6 R.out).mono ?_
      rw [N4.out]
      rintro e w7 ⟨rfl, hw⟩
      rw [hw]
      clear hw w7
      go_wp2_with fail
      go_roundw
      case rel => exact ⟨1, by omega, by go_num, P.out, S.out⟩
      case measure => simp [intOf]
    · by_cases h1 : j = 1
      · subst h1
        clear h0
        go_upto_region 7 with fail
        generalize hw : World.alloc wr _ = w2
        have hb : Below wr.heap.size wr w2 := by rw [← hw]; exact below_new _ _
        have P := Lib.hid (below_block hb (row_lt P.out) P.out)
        have S := Lib.hid (S.out.trans (hb.mono S.out.size))
        clear hw hb a1
        have a1 := row_cell P.out 1 rfl
        go_wp2_with fail
        refine (num_nil b BB.out w2).mono ?_
        rintro e w3 ⟨rfl, hw⟩
        rw [hw]
        clear hw w3
        go_wp2_with fail
        refine (raw_nil b w2).mono ?_
        rintro e w3 ⟨v, rfl, ho, hb⟩
        obtain ⟨Av, cv, rfl, _⟩ := ho.read
        have P := Lib.hid (below_block hb (row_lt P.out) P.out)
        have S := Lib.hid (S.out.trans (hb.mono S.out.size))
        clear ho hb a1
        go_wp2_with fail
        refine (rsz_nil w3).mono ?_
        rintro e w4 ⟨v, rfl, ho, hb⟩
        obtain ⟨Av, cv, rfl, _⟩ := ho.read
        have P := Lib.hid (below_block hb (row_lt P.out) P.out)
        have S := Lib.hid (S.out.trans (hb.mono S.out.size))
        clear ho hb
        have a1 := row_cell P.out 1 rfl
        go_wp2_with fail
        refine (rlist_nil b w4).mono ?_
        rintro e w5 ⟨rfl, hb⟩
        have P := Lib.hid (below_block hb (row_lt P.out) P.out)
        have S := Lib.hid (S.out.trans (hb.mono S.out.size))
        clear hb a1
        go_wp2_with fail
        refine (left_nil w5).mono ?_
        rintro e w6 ⟨rfl, hw⟩
        rw [hw]
        clear hw w6
        go_wp2_with fail
        go_roundw
        case rel => exact ⟨2, by omega, by go_num, P.out, S.out⟩
        case measure => simp [intOf]
      · obtain rfl : j = 2 := by omega
        go_wp2_with fail
        refine (wireOne_true _).mono ?_
        rintro e w2 ⟨rfl, hb⟩
        have S := Lib.hid (S.out.trans (hb.mono S.out.size))
        clear hb
        go_wp2_with fail
        go_ret
        exact ⟨rfl, S.out⟩
end Go.Proofs.Ytcmpiockcndejaa
