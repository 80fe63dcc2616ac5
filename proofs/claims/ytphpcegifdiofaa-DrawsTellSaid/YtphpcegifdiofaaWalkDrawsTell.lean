/- The law DrawsTell, walked. -/
import Derived.Test.YtphpcegifdiofaaDrawOne
import Derived.Test.YtphpcegifdiofaaDrawR
import Derived.Test.YtphpcegifdiofaaEqArr
namespace Go.Proofs.Ytphpcegifdiofaa
set_option linter.unusedVariables false
set_option linter.unusedSimpArgs false
open Go.RowKit
attribute [local go_sem ↓] Go.wp_at_zero Go.wp_at_succ

theorem tellZ_any (w : World) (g D : Nat) (F : List UInt8) (u : Nat) (W : World) (h : SrcW w g D F u W) (hb : F.length ≤ 100000) (m : Int) (M : Nat) (hM : takeN m = M) (hu : u + M ≤ 900000) :
    Calls Try.prog 7 #[.pointer (some ⟨g, 0, none⟩), .int .i64 m] W fun e w' => (∃ v, e = .returned v ∧ OwnB w' W.heap.size v (tellS F u M)) ∧ SrcW w g D F (u + M) w' ∧ W.grownBy w' (some g) := by
  have := tell_any g D F u true W h.src h.ltD hb m (by rw [hM]; exact hu)
  rw [hM] at this
  exact this.mono fun e w' ⟨v, he, ho, hs, hg⟩ => ⟨⟨v, he, ho⟩, h.step hs hg, hg⟩
def cutZ (z : Int) : Int := if 300 < z then z.tmod 300 else z
theorem cutZ_le (z : Int) : cutZ z ≤ 300 := by
  unfold cutZ
  split
  · have := Int.tmod_lt_of_pos z (show (0 : Int) < 300 by omega); omega
  · omega
set_option maxRecDepth 100000 in
set_option maxHeartbeats 4000000 in
theorem drawsTell_walk (w : World) (A0 : Option Addr) (c0 : Nat) (l0 : List UInt8) (R0 : RdB w A0 l0) (n0 : l0.length ≤ c0) (m0 : c0 ≤ 9223372036854775807) (b0 : ∀ a, A0 = some a → a.block < w.heap.size) (z0 : l0.length ≤ 140737488351232)
    (A1 : Option Addr) (c1 : Nat) (l1 : List UInt8) (R1 : RdB w A1 l1) (n1 : l1.length ≤ c1) (m1 : c1 ≤ 9223372036854775807) (b1 : ∀ a, A1 = some a → a.block < w.heap.size) (z1 : l1.length ≤ 140737488351232)
    (A2 : Option Addr) (c2 : Nat) (l2 : List Int) (R2 : RdV w A2 (l2.map (Value.int .i64))) (n2 : l2.length ≤ c2) (m2 : c2 ≤ 9223372036854775807) (b2 : ∀ a, A2 = some a → a.block < w.heap.size) (f2 : ∀ z ∈ l2, -9223372036854775808 ≤ z ∧ z ≤ 9223372036854775807) :
    Calls Try.prog 3 #[.slice A0 l0.length c0, .slice A1 l1.length c1, .slice A2 l2.length c2] w fun e w' => e = .returned (.bool true) ∧ Below w.heap.size w w' := by
  obtain ⟨q0, hq0⟩ : ∃ q, q = l0.length := ⟨_, rfl⟩
  obtain ⟨q1, hq1⟩ : ∃ q, q = l1.length := ⟨_, rfl⟩
  obtain ⟨q2, hq2⟩ : ∃ q, q = l2.length := ⟨_, rfl⟩
  rw [← hq0] at n0 z0 ⊢
  rw [← hq1] at n1 z1 ⊢
  rw [← hq2] at n2 ⊢
  have Q0 := Lib.hid hq0.symm
  have Q1 := Lib.hid hq1.symm
  have Q2 := Lib.hid hq2.symm
  have S0 := Lib.hid R0
  have S1 := Lib.hid R1
  have S2 := Lib.hid R2
  have N0 := Lib.hid n0
  have N1 := Lib.hid n1
  have F2 := Lib.hid f2
  obtain ⟨i0, hi0, hz0, hz1, hz2⟩ := info_parts (show (Try.prog.info? 5).map (fun i => (i.zero, i.size, i.bytes)) = some (some (.int .u8 0), 1, 1) by kernel_rfl)
  have I0 := Lib.hid hi0
  have I1 := Lib.hid hz1
  clear hi0 hz0 hz1 hz2
  have d0 : (q0 : Int) ≤ 140737488351232 := by omega
  have d1 : (q1 : Int) ≤ 140737488351232 := by omega
  have d2 : (q2 : Int) ≤ 9223372036854775807 := by omega
  clear R0 R1 R2 hq0 hq1 hq2 n0 n1 n2 m2 b0 b1 b2 f2
  by_cases h1 : 200 < q0
  · have hD : decide ((200 : Int) < (q0 : Int)) = true := by simp; omega
    go_enter Try.func3, Try.ntmps3
    go_wp2_with fail
    go_ret
    exact ⟨rfl, Below.refl _ _⟩
  · have hD : decide ((200 : Int) < (q0 : Int)) = false := by simp; omega
    by_cases h2 : 200 < q1
    · have hE : decide ((200 : Int) < (q1 : Int)) = true := by simp; omega
      go_enter Try.func3, Try.ntmps3
      go_wp2_with fail
      go_ret
      exact ⟨rfl, Below.refl _ _⟩
    · have hE : decide ((200 : Int) < (q1 : Int)) = false := by simp; omega
      have L0 := Lib.hid (show q0 ≤ 200 by omega)
      have L1 := Lib.hid (show q1 ≤ 200 by omega)
      go_enter Try.func3, Try.ntmps3
      go_wp2_with fail
      clear hD hE h1 h2
      have B0 := Lib.hid (show Below w.heap.size w (w.alloc (.cells #[.slice A0 q0 c0, .slice A1 q1 c1] 22)) from below_new _ _)
      obtain ⟨F, hF⟩ : ∃ F, F = l0 ++ l1 := ⟨_, rfl⟩
      have FE := Lib.hid hF.symm
      have FL := Lib.hid (show F.length ≤ 400 by have := Q0.out; have := Q1.out; have := L0.out; have := L1.out; rw [hF, List.length_append]; omega)
      refine (dnew_any _ (some ⟨w.heap.size, 0, none⟩) 2 2 [.slice A0 q0 c0, .slice A1 q1 c1] [l0, l1] rfl (RdV.row (t := 22) (fr := (0, 0)) (ha_new w _ _ rfl))
        (.cons ⟨A0, c0, by rw [Q0.out], by rw [Q0.out]; exact N0.out, S0.out.keep B0.out⟩ (.cons ⟨A1, c1, by rw [Q1.out], by rw [Q1.out]; exact N1.out, S1.out.keep B0.out⟩ .nil)) ?o1 (by omega)).mono ?_
      case o1 => have := FL.out; rw [hF] at this; simp at this ⊢; omega
      rw [show [l0, l1].flatten = F by rw [hF]; simp]
      rintro e w1 ⟨g, D, rfl, hg, hD, hD2, hs, hb⟩
      have S := Lib.hid (SrcW.made B0.out hg hD hD2 hs hb)
      clear hg hD hD2 hs hb B0 hF
      have R0' := Lib.hid (S0.out.keep S.out.bel)
      have R1' := Lib.hid (S1.out.keep S.out.bel)
      go_wp2_with (first
        | (refine wpList_val rfl (run_str 22 9 (.tmp 28) rfl Try.underlying22 Try.underlying5 Try.underlying9 R0'.out q0 c0 Q0.out rfl) ?_)
        | (refine wpList_val rfl (run_str 22 9 (.tmp 30) rfl Try.underlying22 Try.underlying5 Try.underlying9 R1'.out q1 c1 Q1.out rfl) ?_)
        | (refine wpList_val rfl (run_cat 9 _ (.tmp 29) (.tmp 31) rfl l0 l1 rfl rfl (by have := Q0.out; have := Q1.out; have := L0.out; have := L1.out; omega) _) ?_))
      rw [FE.out]
      clear R0' R1' FE
      go_loopw [9, 10] (fun u i wr => ∃ j t : Nat, j ≤ q2 ∧ j ≤ 20 ∧ i = .int .i64 (j : Int) ∧ u = .int .i64 (t : Int) ∧ t ≤ 300 * j ∧ SrcW w g D F t wr) (fun _ i _ => q2 - (intOf i).toNat)
      case atStart => exact ⟨0, 0, by omega, by omega, rfl, rfl, by omega, S.out⟩
      case round =>
        obtain ⟨j, t, hj, hj2, rfl, rfl, ht, hs⟩ := hrel
        have J := Lib.hid (And.intro hj hj2)
        have T := Lib.hid ht
        have S := Lib.hid hs
        clear hj hj2 ht hs
        by_cases hlt : j < q2
        · have hD : decide ((j : Int) < (q2 : Int)) = true := by simp; omega
          by_cases hl2 : j < 20
          · have hE : decide ((j : Int) < (20 : Int)) = true := by simp; omega
            obtain ⟨z, hz⟩ : ∃ z, l2[j]? = some z := ⟨_, List.getElem?_eq_getElem (by rw [Q2.out]; exact hlt)⟩
            obtain ⟨b, o, rfl, hcell⟩ := (S2.out.keep S.out.bel) j (.int .i64 z) (by rw [List.getElem?_map, hz]; rfl)
            have ZB := F2.out z (List.mem_of_getElem? hz)
            obtain ⟨zb1, zb2⟩ := ZB
            have jb : (j : Int) < (q2 : Int) := by omega
            obtain ⟨m, hm⟩ : ∃ m, m = cutZ z := ⟨_, rfl⟩
            have mb := Lib.hid (show m ≤ 300 by rw [hm]; exact cutZ_le z)
            have ME := Lib.hid hm
            obtain ⟨M, hM⟩ : ∃ M, M = takeN m := ⟨_, rfl⟩
            have M3 := Lib.hid (show M ≤ 300 by rw [hM]; unfold takeN; have := mb.out; omega)
            have MI := Lib.hid (show (if m < (0 : Int) then (0 : Int) else m) = (M : Int) by rw [hM]; unfold takeN; have := mb.out; split <;> omega)
            have MT := Lib.hid hM.symm
            clear hz hm hM
            go_upto_if 48 with fail
            clear hD hE hcell
            go_cut [11] (fun v wx => v = .int .i64 m ∧ wx = wr)
            case first =>
              by_cases hz : 300 < z
              · have hD : decide ((300 : Int) < z) = true := by simp; omega
                have e1 : z.tmod 300 = m := by rw [ME.out, cutZ, if_pos hz]
                go_wp2_with fail
                go_meet
                exact ⟨rfl, rfl⟩
              · have hD : decide ((300 : Int) < z) = false := by simp; omega
                have ez := Lib.hid (show z = m by rw [ME.out, cutZ, if_neg hz])
                go_wp2_with fail
                go_meet
                exact ⟨by rw [ez.out], rfl⟩
            case rest =>
            obtain ⟨rfl, rfl⟩ := hcut
            go_wp2_with fail
            refine (tellZ_any w g D F t wc S.out (by have := FL.out; omega) m M MT.out (by have := T.out; have := J.out; have := M3.out; omega)).mono ?_
            obtain ⟨X, hX⟩ : ∃ X, X = tellS F t M := ⟨_, rfl⟩
            rw [← hX]
            have XE := Lib.hid hX
            have XL := Lib.hid (show X.length = M by rw [hX, tellS_length])
            rintro e w3 ⟨⟨v, rfl, ho⟩, hs, _⟩
            obtain ⟨A5, c5, rfl, hr, hl5, hc5, _⟩ := ho.read
            rw [XL.out] at hl5 ⊢
            have S := Lib.hid hs
            have R5 := Lib.hid hr
            clear ho hs hr hX
            have e2 := MI.out
            have Mb : (M : Int) ≤ 300 := by have := M3.out; omega
            go_wp2_with fail
            clear e2
            go_loopw [9, 13] (fun u i wr => ∃ k q : Nat, k ≤ M ∧ i = .int .i64 (k : Int) ∧ u = .int .i64 (q : Int) ∧ q = t + k ∧ Below w3.heap.size w3 wr) (fun _ i _ => M - (intOf i).toNat)
            case atStart => exact ⟨0, t, by omega, rfl, rfl, rfl, Below.refl _ _⟩
            case round =>
              obtain ⟨k, q, hk, rfl, rfl, hq, hbk⟩ := hrel
              have KM := Lib.hid hk
              have QE := Lib.hid hq
              have qb : (q : Int) ≤ 7000 := by have := T.out; have := J.out; have := M3.out; omega
              have BK := Lib.hid hbk
              clear hk hq hbk
              by_cases hkm : k < M
              · have hD : decide ((k : Int) < (M : Int)) = true := by simp; omega
                obtain ⟨y, hy⟩ : ∃ y, y = byteS F q := ⟨_, rfl⟩
                have YE := Lib.hid hy
                obtain ⟨b5, o5, rfl, hc⟩ := (R5.out.keep BK.out) k (by rw [XL.out]; exact hkm)
                rw [XE.out, tellS_get _ _ _ _ hkm, ← QE.out, ← hy] at hc
                have C5 := Lib.hid hc
                have kb : (k : Int) < (M : Int) := by omega
                clear hy hc
                go_upto_region 18 with fail
                have SB := Lib.hid (show Below wr.heap.size wr wr.drew from (Below.refl _ _).drew)
                refine wp_region_road (fun W => Below wr.heap.size wr W) [(true, 0), (true, 1), (true, 2), (true, 3), (true, 4), (true, 5), (false, 6), (true, 7)] (by kernel_rfl) (by kernel_rfl) (fun _ _ d _ _ h => by cases d <;> exact h) ?_
                simp only [List.filterMap_cons, List.filterMap_nil, List.getElem?_toArray, List.getElem?_cons_zero, List.getElem?_cons_succ, Option.map_some]
                refine planG_q (v := ?_) (by rfl) (SB.out) ?_ ?_
                rotate_left
                · intro W hW
                  go_simp
                  with_reducible rfl
                simp only [Act.put, List.setIfInBounds_toArray, List.set_cons_zero, List.set_cons_succ]
                refine planG_q (v := ?_) (by rfl) (SB.out) ?_ ?_
                rotate_left
                · intro W hW
                  go_simp
                  with_reducible rfl
                simp only [Act.put, List.setIfInBounds_toArray, List.set_cons_zero, List.set_cons_succ]
                refine planG_q (by rfl) (SB.out) (fun W hW => run_iaddr_sl 22 (.tmp 65) (.tmp 66) rfl 5 Try.underlying22 I0.out I1.out b5 o5 M c5 k hkm .i64 _ rfl rfl rfl W) ?_
                simp only [Act.put, List.setIfInBounds_toArray, List.set_cons_zero, List.set_cons_succ]
                refine planG_q (by rfl) (SB.out) (fun W hW => run_cell 5 (.tmp 67) rfl _ Try.underlying5 rfl rfl ((hW.cell (p := ⟨b5, o5 + k, none⟩) (World.block_lt_of_cell? _ _ C5.out)).trans C5.out)) ?_
                simp only [Act.put, List.setIfInBounds_toArray, List.set_cons_zero, List.set_cons_succ]
                refine planG_q (v := ?_) (by rfl) (SB.out) ?_ ?_
                rotate_left
                · intro W hW
                  go_simp
                  with_reducible rfl
                simp only [Act.put, List.setIfInBounds_toArray, List.set_cons_zero, List.set_cons_succ]
                refine planG_q (v := ?_) (by rfl) (SB.out) ?_ ?_
                rotate_left
                · intro W hW
                  go_simp
                  with_reducible rfl
                simp only [Act.put, List.setIfInBounds_toArray, List.set_cons_zero, List.set_cons_succ]
                refine planG_t (by rfl) (fun K hK => ?_)
                go_simp
                refine (rbyte_any F F.length rfl (by have := FL.out; omega) q (by omega) _).mono ?_
                rw [← YE.out]
                rintro e w4 ⟨rfl, hb⟩
                have SB := Lib.hid (SB.out.trans (hb.mono SB.out.size))
                clear hb
                refine hK.out _ _ (SB.out) ?_
                clear hK K
                refine planG_q (v := ?_) (by rfl) (SB.out) ?_ ?_
                rotate_left
                · intro W hW
                  go_simp
                  with_reducible rfl
                simp only [Act.put, List.setIfInBounds_toArray, List.set_cons_zero, List.set_cons_succ]
                refine planG_nil ?_
                have BK := Lib.hid (BK.out.trans (SB.out.mono BK.out.size))
                clear C5 hD
                go_wp2_with fail
                go_roundw
                case rel => exact ⟨k + 1, q + 1, by omega, by go_num, by go_num, by have := QE.out; omega, BK.out⟩
                case measure => simp [intOf]; omega
              · have hD : decide ((k : Int) < (M : Int)) = false := by simp; omega
                obtain rfl : k = M := by have := KM.out; omega
                have S := Lib.hid (S.out.keep BK.out)
                have QU := Lib.hid (show t + k = q from QE.out.symm)
                go_wp2_with fail
                refine (used_any g D _ _ _ _ S.out.src).mono ?_
                rw [QU.out]
                rintro e w5 ⟨rfl, hw⟩
                rw [hw]
                clear hw w5
                go_wp2_with fail
                go_roundw
                case rel => exact ⟨j + 1, q, by omega, by omega, by go_num, rfl, by have := T.out; have := M3.out; have := QE.out; omega, by rw [← QU.out]; exact S.out⟩
                case measure => simp [intOf]; omega
          · have hE : decide ((j : Int) < (20 : Int)) = false := by simp; omega
            have jb : (j : Int) < (q2 : Int) := by omega
            go_wp2_with fail
            obtain ⟨X, hX⟩ : ∃ X, X = tellS F t 32 := ⟨_, rfl⟩
            refine (dkey_any g D F t true wr S.out.src S.out.ltD (by have := FL.out; omega) (by have := T.out; have := J.out; omega)).mono ?_
            rw [← hX]
            have XE := Lib.hid hX
            have XL := Lib.hid (show X.length = 32 by rw [hX, tellS_length])
            have ZX := Lib.hid (show (Try.prog.info? 30).map (·.size) = some (W8 X).size by rw [W8_size, XL.out]; kernel_rfl)
            rintro e w3 ⟨rfl, hs, hg⟩
            have S3 := Lib.hid (S.out.step hs hg)
            clear hs hg hX
            go_upto_region 24 with (refine wpList_store_new rfl rfl 30 (.tmp 14) (.tmp 80) rfl (W8 X) rfl rfl ZX.out ?c1 (W8_one _) ?_)
            case c1 => rw [W8_size, XL.out]; rfl
            generalize hM : Array.size (World.heap w3) = M
            generalize hw : World.alloc w3 _ = w4
            have KB := Lib.hid (show w4.heap[M]? = some (.cells (W8 X) 30 (0, 0)) by rw [← hw]; exact ha_new _ _ _ hM.symm)
            have B4 := Lib.hid (show Below w.heap.size w w4 by rw [← hw]; exact S3.out.bel.alloc S3.out.bel.size _)
            clear hM hw
            go_wp2_with fail
            go_loopw [15] (fun i wr => ∃ k : Nat, k ≤ 32 ∧ i = .int .i64 (k : Int) ∧ Below w4.heap.size w4 wr) (fun i _ => 32 - (intOf i).toNat)
            case atStart => exact ⟨0, by omega, rfl, Below.refl _ _⟩
            case round =>
              obtain ⟨k, hk, rfl, hbk⟩ := hrel
              have KM := Lib.hid hk
              have BK := Lib.hid hbk
              clear hk hbk
              by_cases hkm : k < 32
              · have hF : decide ((k : Int) < 32) = true := by simp; omega
                obtain ⟨q, hq⟩ : ∃ q, q = t + k := ⟨_, rfl⟩
                obtain ⟨y, hy⟩ : ∃ y, y = byteS F q := ⟨_, rfl⟩
                have YE := Lib.hid hy
                have c := row_cell (below_block BK.out (row_lt KB.out) KB.out) k (W8_get _ k (by rw [XL.out]; exact hkm))
                rw [XE.out, tellS_get _ _ _ _ hkm, ← hq, ← hy] at c
                have C5 := Lib.hid c
                have qb := Lib.hid (show q ≤ 7000 by have := T.out; have := J.out; omega)
                have eq : IntKind.i64.wrap ((t : Int) + (k : Int)) = (q : Int) := by rw [IntWalk.i64_in _ (by have := qb.out; omega), hq]; rfl
                clear hy c hq
                go_upto_region 27 with fail
                have SB := Lib.hid (show Below wr.heap.size wr wr.drew from (Below.refl _ _).drew)
                refine wp_region_road (fun W => Below wr.heap.size wr W) [(true, 0), (true, 1), (true, 2), (true, 3), (true, 4), (true, 5), (true, 6), (false, 7), (true, 8)] (by kernel_rfl) (by kernel_rfl) (fun _ _ d _ _ h => by cases d <;> exact h) ?_
                simp only [List.filterMap_cons, List.filterMap_nil, List.getElem?_toArray, List.getElem?_cons_zero, List.getElem?_cons_succ, Option.map_some]
                refine planG_q (v := ?_) (by rfl) (SB.out) ?_ ?_
                rotate_left
                · intro W hW
                  go_simp
                  with_reducible rfl
                simp only [Act.put, List.setIfInBounds_toArray, List.set_cons_zero, List.set_cons_succ]
                refine planG_q (by rfl) (SB.out) (fun W hW => run_iaddr_arr 30 (.tmp 14) (.tmp 85) rfl 32 5 Try.underlying30 I0.out I1.out M k hkm .i64 _ rfl rfl rfl W) ?_
                simp only [Act.put, List.setIfInBounds_toArray, List.set_cons_zero, List.set_cons_succ]
                refine planG_q (by rfl) (SB.out) (fun W hW => run_cell 5 (.tmp 86) rfl _ Try.underlying5 rfl rfl ((hW.cell (p := ⟨M, k, none⟩) (World.block_lt_of_cell? _ _ C5.out)).trans C5.out)) ?_
                simp only [Act.put, List.setIfInBounds_toArray, List.set_cons_zero, List.set_cons_succ]
                refine planG_q (v := ?_) (by rfl) (SB.out) ?_ ?_
                rotate_left
                · intro W hW
                  go_simp
                  with_reducible rfl
                simp only [Act.put, List.setIfInBounds_toArray, List.set_cons_zero, List.set_cons_succ]
                refine planG_q (v := ?_) (by rfl) (SB.out) ?_ ?_
                rotate_left
                · intro W hW
                  go_simp
                  with_reducible rfl
                simp only [Act.put, List.setIfInBounds_toArray, List.set_cons_zero, List.set_cons_succ]
                refine planG_q (v := ?_) (by rfl) (SB.out) ?_ ?_
                rotate_left
                · intro W hW
                  go_simp
                  with_reducible rfl
                simp only [Act.put, List.setIfInBounds_toArray, List.set_cons_zero, List.set_cons_succ]
                refine planG_q (v := ?_) (by rfl) (SB.out) ?_ ?_
                rotate_left
                · intro W hW
                  go_simp
                  with_reducible rfl
                simp only [Act.put, List.setIfInBounds_toArray, List.set_cons_zero, List.set_cons_succ]
                refine planG_t (by rfl) (fun K hK => ?_)
                go_simp
                refine (rbyte_any F F.length rfl (by have := FL.out; omega) q (by have := qb.out; omega) _).mono ?_
                rw [← YE.out]
                rintro e w4 ⟨rfl, hb⟩
                have SB := Lib.hid (SB.out.trans (hb.mono SB.out.size))
                clear hb
                refine hK.out _ _ (SB.out) ?_
                clear hK K
                refine planG_q (v := ?_) (by rfl) (SB.out) ?_ ?_
                rotate_left
                · intro W hW
                  go_simp
                  with_reducible rfl
                simp only [Act.put, List.setIfInBounds_toArray, List.set_cons_zero, List.set_cons_succ]
                refine planG_nil ?_
                have BK := Lib.hid (BK.out.trans (SB.out.mono BK.out.size))
                clear C5 hF eq
                go_wp2_with fail
                go_roundw
                case rel => exact ⟨k + 1, by omega, by go_num, BK.out⟩
                case measure => simp [intOf]; omega
              · have hF : decide ((k : Int) < 32) = false := by simp; omega
                go_wp2_with fail
                refine (drawOne_true _).mono ?_
                rintro e w5 ⟨rfl, hb⟩
                have BF := Lib.hid (B4.out.trans ((BK.out.mono B4.out.size).trans (hb.mono (Nat.le_trans B4.out.size BK.out.size))))
                clear hb
                go_wp2_with fail
                go_ret
                exact ⟨rfl, BF.out⟩
        · have hD : decide ((j : Int) < (q2 : Int)) = false := by simp; omega
          go_wp2_with fail
          obtain ⟨X, hX⟩ : ∃ X, X = tellS F t 32 := ⟨_, rfl⟩
          refine (dkey_any g D F t true wr S.out.src S.out.ltD (by have := FL.out; omega) (by have := T.out; have := J.out; omega)).mono ?_
          rw [← hX]
          have XE := Lib.hid hX
          have XL := Lib.hid (show X.length = 32 by rw [hX, tellS_length])
          have ZX := Lib.hid (show (Try.prog.info? 30).map (·.size) = some (W8 X).size by rw [W8_size, XL.out]; kernel_rfl)
          rintro e w3 ⟨rfl, hs, hg⟩
          have S3 := Lib.hid (S.out.step hs hg)
          clear hs hg hX
          go_upto_region 24 with (refine wpList_store_new rfl rfl 30 (.tmp 14) (.tmp 80) rfl (W8 X) rfl rfl ZX.out ?c1 (W8_one _) ?_)
          case c1 => rw [W8_size, XL.out]; rfl
          generalize hM : Array.size (World.heap w3) = M
          generalize hw : World.alloc w3 _ = w4
          have KB := Lib.hid (show w4.heap[M]? = some (.cells (W8 X) 30 (0, 0)) by rw [← hw]; exact ha_new _ _ _ hM.symm)
          have B4 := Lib.hid (show Below w.heap.size w w4 by rw [← hw]; exact S3.out.bel.alloc S3.out.bel.size _)
          clear hM hw
          go_wp2_with fail
          go_loopw [15] (fun i wr => ∃ k : Nat, k ≤ 32 ∧ i = .int .i64 (k : Int) ∧ Below w4.heap.size w4 wr) (fun i _ => 32 - (intOf i).toNat)
          case atStart => exact ⟨0, by omega, rfl, Below.refl _ _⟩
          case round =>
            obtain ⟨k, hk, rfl, hbk⟩ := hrel
            have KM := Lib.hid hk
            have BK := Lib.hid hbk
            clear hk hbk
            by_cases hkm : k < 32
            · have hF : decide ((k : Int) < 32) = true := by simp; omega
              obtain ⟨q, hq⟩ : ∃ q, q = t + k := ⟨_, rfl⟩
              obtain ⟨y, hy⟩ : ∃ y, y = byteS F q := ⟨_, rfl⟩
              have YE := Lib.hid hy
              have c := row_cell (below_block BK.out (row_lt KB.out) KB.out) k (W8_get _ k (by rw [XL.out]; exact hkm))
              rw [XE.out, tellS_get _ _ _ _ hkm, ← hq, ← hy] at c
              have C5 := Lib.hid c
              have qb := Lib.hid (show q ≤ 7000 by have := T.out; have := J.out; omega)
              have eq : IntKind.i64.wrap ((t : Int) + (k : Int)) = (q : Int) := by rw [IntWalk.i64_in _ (by have := qb.out; omega), hq]; rfl
              clear hy c hq
              go_upto_region 27 with fail
              have SB := Lib.hid (show Below wr.heap.size wr wr.drew from (Below.refl _ _).drew)
              refine wp_region_road (fun W => Below wr.heap.size wr W) [(true, 0), (true, 1), (true, 2), (true, 3), (true, 4), (true, 5), (true, 6), (false, 7), (true, 8)] (by kernel_rfl) (by kernel_rfl) (fun _ _ d _ _ h => by cases d <;> exact h) ?_
              simp only [List.filterMap_cons, List.filterMap_nil, List.getElem?_toArray, List.getElem?_cons_zero, List.getElem?_cons_succ, Option.map_some]
              refine planG_q (v := ?_) (by rfl) (SB.out) ?_ ?_
              rotate_left
              · intro W hW
                go_simp
                with_reducible rfl
              simp only [Act.put, List.setIfInBounds_toArray, List.set_cons_zero, List.set_cons_succ]
              refine planG_q (by rfl) (SB.out) (fun W hW => run_iaddr_arr 30 (.tmp 14) (.tmp 85) rfl 32 5 Try.underlying30 I0.out I1.out M k hkm .i64 _ rfl rfl rfl W) ?_
              simp only [Act.put, List.setIfInBounds_toArray, List.set_cons_zero, List.set_cons_succ]
              refine planG_q (by rfl) (SB.out) (fun W hW => run_cell 5 (.tmp 86) rfl _ Try.underlying5 rfl rfl ((hW.cell (p := ⟨M, k, none⟩) (World.block_lt_of_cell? _ _ C5.out)).trans C5.out)) ?_
              simp only [Act.put, List.setIfInBounds_toArray, List.set_cons_zero, List.set_cons_succ]
              refine planG_q (v := ?_) (by rfl) (SB.out) ?_ ?_
              rotate_left
              · intro W hW
                go_simp
                with_reducible rfl
              simp only [Act.put, List.setIfInBounds_toArray, List.set_cons_zero, List.set_cons_succ]
              refine planG_q (v := ?_) (by rfl) (SB.out) ?_ ?_
              rotate_left
              · intro W hW
                go_simp
                with_reducible rfl
              simp only [Act.put, List.setIfInBounds_toArray, List.set_cons_zero, List.set_cons_succ]
              refine planG_q (v := ?_) (by rfl) (SB.out) ?_ ?_
              rotate_left
              · intro W hW
                go_simp
                with_reducible rfl
              simp only [Act.put, List.setIfInBounds_toArray, List.set_cons_zero, List.set_cons_succ]
              refine planG_q (v := ?_) (by rfl) (SB.out) ?_ ?_
              rotate_left
              · intro W hW
                go_simp
                with_reducible rfl
              simp only [Act.put, List.setIfInBounds_toArray, List.set_cons_zero, List.set_cons_succ]
              refine planG_t (by rfl) (fun K hK => ?_)
              go_simp
              refine (rbyte_any F F.length rfl (by have := FL.out; omega) q (by have := qb.out; omega) _).mono ?_
              rw [← YE.out]
              rintro e w4 ⟨rfl, hb⟩
              have SB := Lib.hid (SB.out.trans (hb.mono SB.out.size))
              clear hb
              refine hK.out _ _ (SB.out) ?_
              clear hK K
              refine planG_q (v := ?_) (by rfl) (SB.out) ?_ ?_
              rotate_left
              · intro W hW
                go_simp
                with_reducible rfl
              simp only [Act.put, List.setIfInBounds_toArray, List.set_cons_zero, List.set_cons_succ]
              refine planG_nil ?_
              have BK := Lib.hid (BK.out.trans (SB.out.mono BK.out.size))
              clear C5 hF eq
              go_wp2_with fail
              go_roundw
              case rel => exact ⟨k + 1, by omega, by go_num, BK.out⟩
              case measure => simp [intOf]; omega
            · have hF : decide ((k : Int) < 32) = false := by simp; omega
              go_wp2_with fail
              refine (drawOne_true _).mono ?_
              rintro e w5 ⟨rfl, hb⟩
              have BF := Lib.hid (B4.out.trans ((BK.out.mono B4.out.size).trans (hb.mono (Nat.le_trans B4.out.size BK.out.size))))
              clear hb
              go_wp2_with fail
              go_ret
              exact ⟨rfl, BF.out⟩
end Go.Proofs.Ytphpcegifdiofaa
