/- The reference's reader: bytes, and what is wrong at the end. No condition but those each theorem states. -/
import Derived.Test.YtcmpiockcndejaaRefRd
namespace Go.Proofs.Ytcmpiockcndejaa
set_option linter.unusedVariables false
set_option linter.unusedSimpArgs false
open Go.RowKit
attribute [local go_sem ↓] Go.wp_at_zero Go.wp_at_succ

set_option maxRecDepth 100000 in
set_option maxHeartbeats 4000000 in
theorem rraw_any (w : World) (s : RSt) (hl : s.l.length ≤ 100000) (m : Int) :
    Calls Try.prog 22 #[refV s, .int .i64 m] w fun e w' => e = .returned (.tuple #[refV (takeS s m).1, .string (strB (takeS s m).2.1)]) ∧ Below w.heap.size w w' := by
  obtain ⟨l, e⟩ := s
  obtain ⟨q, hq⟩ : ∃ q, q = l.length := ⟨_, rfl⟩
  have hl : l.length ≤ 100000 := hl
  rw [← hq] at hl
  have sz : (strB l).size = q := by rw [strB_size, hq]
  have QE := Lib.hid hq.symm
  have qb : (q : Int) ≤ 100000 := by omega
  obtain ⟨T, hT⟩ : ∃ T, T = takeS ⟨l, e⟩ m := ⟨_, rfl⟩
  rw [← hT]
  have TE := Lib.hid hT
  unfold refV
  clear hq hT hl
  go_enter Try.func22, Try.ntmps22
  by_cases he : e = 0
  · subst he
    by_cases h1 : m < 1
    · have hD : decide (m < (1 : Int)) = true := by simp; omega
      have F := Lib.hid (show T = (⟨l, 0⟩, [], false) by rw [TE.out, takeS, if_pos (.inl h1)])
      go_wp2_with fail
      refine ret_ref (w.heap.size + 1) ⟨l, 0⟩ _ rfl rfl rfl rfl (ha_new _ _ _ (by simp)) ⟨by rw [F.out]; rfl, below2 _ _ _⟩
    · have hD : decide (m < (1 : Int)) = false := by simp; omega
      obtain ⟨M, rfl⟩ : ∃ M : Nat, m = (M : Int) := ⟨m.toNat, by omega⟩
      by_cases h2 : q < M
      · have hD2 : decide (q < M) = true := by simp; omega
        have F := Lib.hid (show T = (⟨[], 10⟩, [], false) by rw [TE.out, takeS, if_neg (by simp; omega), if_pos (by simp only; have := QE.out; omega)])
        go_wp2_with fail
        refine (rwrong_any _ ⟨l, 0⟩ 10).mono ?_
        rintro e w3 ⟨rfl, hb⟩
        have row := below_block hb (by simp) (ha_new _ _ (w.heap.size + 1) (by simp))
        have S3 := Lib.hid ((below2 w _ _).trans (hb.mono (by simp; omega)))
        have ROW := Lib.hid row
        clear hb row
        unfold refV
        go_wp2_with (refine wpList_store_whole rfl rfl 46 (.tmp 4) (.tmp 20) rfl (w.heap.size + 1) #[.string (strB []), .int .i64 10] rfl rfl 46 #[.string ⟨#[]⟩, .int .i64 0] ROW.out info_ref rfl (ref_one _ _) ?_)
        intro w4 hr hg _
        go_wp2_with fail
        refine ret_ref (w.heap.size + 1) ⟨[], 10⟩ _ rfl rfl rfl rfl hr ⟨by rw [F.out]; rfl, S3.out.trans (grown_below hg S3.out.size (by rintro k ⟨⟩; omega))⟩
      · have hD2 : decide (q < M) = false := by simp; omega
        have MQ := Lib.hid (show 1 ≤ M ∧ M ≤ q by omega)
        have F := Lib.hid (show T = (⟨l.drop M, 0⟩, l.take M, true) by rw [TE.out, takeS, if_neg (by simp; omega), if_neg (by simp only; have := QE.out; omega), Int.toNat_natCast])
        go_upto_region 5 with fail
        obtain ⟨g, hg⟩ : ∃ g, g = w.heap.size := ⟨_, rfl⟩
        obtain ⟨g1, hg1⟩ : ∃ g1, g1 = w.heap.size + 1 := ⟨_, rfl⟩
        generalize hw : World.alloc (World.alloc w _) _ = w2
        have S := Lib.hid (show RefB w2.drew g ⟨l, 0⟩ ∧ RefB w2.drew g1 ⟨[], 0⟩ ∧ Below w.heap.size w w2.drew by
          rw [hg, hg1]
          refine ⟨?_, ?_, ?_⟩
          · show w2.heap[w.heap.size]? = _
            rw [← hw]; exact ha_old _ _ _ (by simp) (ha_new _ _ _ rfl)
          · show w2.heap[w.heap.size + 1]? = _
            rw [← hw]; exact ha_new _ _ _ (by simp)
          · rw [← hw]; exact (below2 _ _ _).trans (Below.refl _ _).drew)
        rw [← hg1, ← hg]
        have G := Lib.hid hg
        have G1 := Lib.hid hg1
        clear hw hg hg1
        generalize hw3 : World.drew w2 = w3 at S
        refine wp_region_road (fun W => RefB W g ⟨l, 0⟩) [(true, 0), (true, 1), (true, 2), (true, 3), (true, 4), (true, 5), (true, 6), (true, 7), (true, 8), (false, 9), (true, 10)] (by kernel_rfl) (by kernel_rfl) (fun _ _ d _ _ h => by cases d <;> exact h) ?_
        simp only [List.filterMap_cons, List.filterMap_nil, List.getElem?_toArray, List.getElem?_cons_zero, List.getElem?_cons_succ, Option.map_some]
        rw [hw3]
        clear hw3
        refine planG_q (v := ?_) (by rfl) (S.out.1) ?_ ?_
        rotate_left
        · intro W hW
          go_simp
          with_reducible rfl
        simp only [Act.put, List.setIfInBounds_toArray, List.set_cons_zero, List.set_cons_succ]
        refine planG_q (by rfl) (S.out.1) (fun W hW => run_cell 9 (.tmp 21) rfl _ Try.underlying9 rfl rfl (row_cell hW 0 rfl)) ?_
        simp only [Act.put, List.setIfInBounds_toArray, List.set_cons_zero, List.set_cons_succ]
        refine planG_q (v := ?_) (by rfl) (S.out.1) ?_ ?_
        rotate_left
        · intro W hW
          go_simp
          with_reducible rfl
        simp only [Act.put, List.setIfInBounds_toArray, List.set_cons_zero, List.set_cons_succ]
        refine planG_q (by rfl) (S.out.1) (fun W hW => rd_from 9 (.tmp 22) (.tmp 23) rfl Try.underlying9 l M (by have := QE.out; have := MQ.out; omega) rfl rfl W) ?_
        simp only [Act.put, List.setIfInBounds_toArray, List.set_cons_zero, List.set_cons_succ]
        refine planG_q (v := ?_) (by rfl) (S.out.1) ?_ ?_
        rotate_left
        · intro W hW
          go_simp
          with_reducible rfl
        simp only [Act.put, List.setIfInBounds_toArray, List.set_cons_zero, List.set_cons_succ]
        refine planG_q (v := ?_) (by rfl) (S.out.1) ?_ ?_
        rotate_left
        · intro W hW
          go_simp
          with_reducible rfl
        simp only [Act.put, List.setIfInBounds_toArray, List.set_cons_zero, List.set_cons_succ]
        refine planG_q (by rfl) (S.out.1) (fun W hW => run_cell 9 (.tmp 26) rfl _ Try.underlying9 rfl rfl (row_cell hW 0 rfl)) ?_
        simp only [Act.put, List.setIfInBounds_toArray, List.set_cons_zero, List.set_cons_succ]
        refine planG_q (v := ?_) (by rfl) (S.out.1) ?_ ?_
        rotate_left
        · intro W hW
          go_simp
          with_reducible rfl
        simp only [Act.put, List.setIfInBounds_toArray, List.set_cons_zero, List.set_cons_succ]
        refine planG_q (by rfl) (S.out.1) (fun W hW => rd_to 9 (.tmp 27) (.tmp 28) rfl Try.underlying9 l M (by have := QE.out; have := MQ.out; omega) rfl rfl W) ?_
        simp only [Act.put, List.setIfInBounds_toArray, List.set_cons_zero, List.set_cons_succ]
        refine planG_t (by rfl) (fun K hK => ?_)
        refine wp_store_row 46 (.tmp 4) (.tmp 25) rfl g1 #[.string (strB (l.drop M)), .int .i64 0] rfl rfl 46 _ S.out.2.1 info_ref rfl (ref_one _ _) ?_
        have R2 := Lib.hid (show RefB (w3.setRow g1 #[.string (strB (l.drop M)), .int .i64 0]) g1 ⟨l.drop M, 0⟩ from setRow_heap w3 g1 _ _ _ _ S.out.2.1)
        have R1 := Lib.hid (show RefB (w3.setRow g1 #[.string (strB (l.drop M)), .int .i64 0]) g ⟨l, 0⟩ from (setRow_other w3 g1 g _ (by have := G.out; have := G1.out; omega)).trans S.out.1)
        have B := Lib.hid (show Below w.heap.size w (w3.setRow g1 #[.string (strB (l.drop M)), .int .i64 0]) from S.out.2.2.trans (grown_below (r := some g1) ⟨rfl, rfl, rfl, by simp, fun k hk hne => setRow_other w3 g1 k _ (fun e => hne (by rw [e]))⟩ S.out.2.2.size (by rintro k ⟨⟩; have := G1.out; omega)))
        generalize World.setRow w3 g1 _ = w4 at R2 R1 B ⊢
        refine hK.out _ _ (R1.out) ?_
        clear hK K
        refine planG_q (v := ?_) (by rfl) (R1.out) ?_ ?_
        rotate_left
        · intro W hW
          go_simp
          with_reducible rfl
        simp only [Act.put, List.setIfInBounds_toArray, List.set_cons_zero, List.set_cons_succ]
        refine planG_nil ?_
        go_wp2_with fail
        refine ret_ref g1 ⟨l.drop M, 0⟩ _ rfl rfl rfl rfl R2.out ⟨by rw [F.out]; rfl, B.out⟩
  · have hE : ((e : Int) == 0) = false := by simp; omega
    have hE2 : ((e : Int) != 0) = true := by simp; omega
    have F := Lib.hid (show T = (⟨l, e⟩, [], false) by rw [TE.out, takeS, if_pos (.inr he)])
    go_wp2_with fail
    refine ret_ref (w.heap.size + 1) ⟨l, e⟩ _ rfl rfl rfl rfl (ha_new _ _ _ (by simp)) ⟨by rw [F.out]; rfl, below2 _ _ _⟩
set_option maxRecDepth 100000 in
set_option maxHeartbeats 4000000 in
theorem rdone_any (w : World) (s : RSt) (hl : s.l.length ≤ 100000) :
    Calls Try.prog 29 #[refV s] w fun e w' => e = .returned (.int .i64 (doneS s : Int)) ∧ Below w.heap.size w w' := by
  obtain ⟨l, e⟩ := s
  obtain ⟨q, hq⟩ : ∃ q, q = l.length := ⟨_, rfl⟩
  have hl : l.length ≤ 100000 := hl
  rw [← hq] at hl
  have sz : (strB l).size = q := by rw [strB_size, hq]
  have QE := Lib.hid hq.symm
  have qb : (q : Int) ≤ 100000 := by omega
  unfold refV
  clear hq hl
  go_enter Try.func29, Try.ntmps29
  by_cases he : e = 0
  · subst he
    by_cases h0 : 0 < q
    · have hD : decide (0 < q) = true := by simp; omega
      go_wp2_with fail
      go_ret
      exact ⟨by rw [doneS, if_pos ⟨rfl, by simp only; rw [QE.out]; exact h0⟩]; rfl, below_new _ _⟩
    · have hD : decide (0 < q) = false := by simp; omega
      go_wp2_with fail
      go_ret
      exact ⟨by rw [doneS, if_neg (by simp only; rw [QE.out]; omega)]; rfl, below_new _ _⟩
  · have hE : ((e : Int) == 0) = false := by simp; omega
    have hE2 : ((e : Int) != 0) = true := by simp; omega
    go_wp2_with fail
    go_ret
    exact ⟨by rw [doneS, if_neg (by simp only; omega)]; rfl, below_new _ _⟩
end Go.Proofs.Ytcmpiockcndejaa
