/- The law WireLays, walked. -/
import Derived.Test.YtcmpiockcndejaaRefWList
import Derived.Test.YtcmpiockcndejaaWireOne
namespace Go.Proofs.Ytcmpiockcndejaa
set_option linter.unusedVariables false
set_option linter.unusedSimpArgs false
open Go.RowKit
attribute [local go_sem ↓] Go.wp_at_zero Go.wp_at_succ

set_option maxRecDepth 100000 in
set_option maxHeartbeats 8000000 in
theorem wireLays_walk (w : World) (A0 : Option Addr) (c0 : Nat) (l0 : List UInt8) (R0 : RdB w A0 l0) (n0 : l0.length ≤ c0) (m0 : c0 ≤ 9223372036854775807) (b0 : ∀ a, A0 = some a → a.block < w.heap.size) (z0 : l0.length ≤ 140737488351232)
    (A : Option Addr) (c : Nat) (vs : List Value) (ls : List (List UInt8)) (hR : RdV w A vs) (hc : vs.length ≤ c) (hcm : c ≤ 9223372036854775807) (hall : All2 (SlB w) vs ls) (hlen : ls.length = vs.length) (hmx : ∀ l ∈ ls, l.length ≤ 9223372036854775807) (hz : vs.length ≤ 140737488351232) (x : UInt64) :
    Calls Try.prog 4 #[.slice A0 l0.length c0, .slice A vs.length c, .int .u64 (x.toNat : Int)] w fun e w' => e = .returned (.bool true) ∧ Below w.heap.size w w' := by
  obtain ⟨m, hm⟩ : ∃ m, m = l0.length := ⟨_, rfl⟩
  obtain ⟨n, hn⟩ : ∃ n, n = vs.length := ⟨_, rfl⟩
  rw [← hm] at n0 z0 ⊢
  rw [← hn] at hc hlen hz ⊢
  have ME := Lib.hid hm.symm
  have NE := Lib.hid hn.symm
  have H0 := Lib.hid R0
  have HR := Lib.hid hR
  have HA := Lib.hid hall
  have HX := Lib.hid hmx
  have NL := Lib.hid hlen
  have HC := Lib.hid hc
  have HZ := Lib.hid hz
  have mb : (m : Int) ≤ 140737488351232 := by omega
  have nb : (n : Int) ≤ 140737488351232 := by omega
  clear hm hn n0 m0 b0 R0 hR hc hcm hall hlen hmx hz z0
  go_enter Try.func4, Try.ntmps4
  by_cases h1 : 2000 < m
  · have hD : decide ((2000 : Int) < (m : Int)) = true := by simp; omega
    go_wp2_with fail
    go_ret
    exact ⟨rfl, Below.refl _ _⟩
  · have hD : decide ((2000 : Int) < (m : Int)) = false := by simp; omega
    have M2 := Lib.hid (show m ≤ 2000 by omega)
    go_wp2_with fail
    refine (few_any w A n c vs ls NE.out HR.out HA.out HZ.out HX.out).mono ?_
    rintro e w1 ⟨b, rfl, hw, hfew⟩
    rw [hw]
    clear hw w1
    rcases b with _ | _
    · clear hfew
      go_wp2_with fail
      go_ret
      exact ⟨rfl, Below.refl _ _⟩
    · have FW := Lib.hid (hfew rfl)
      clear hfew
      go_upto_region 3 with fail
      clear hD h1
      go_wp2_with (refine wpList_val rfl (run_str 23 9 (.tmp 18) rfl Try.underlying23 Try.underlying5 Try.underlying9 H0.out m c0 ME.out rfl) ?_)
      go_loopw [8] (fun i wr => ∃ j : Nat, j ≤ 11 ∧ i = .int .i64 ((j : Int) - 1) ∧ Below w.heap.size w wr) (fun i _ => 11 - (intOf i + 1).toNat)
      case atStart => exact ⟨0, by omega, rfl, Below.refl _ _⟩
      case round =>
        obtain ⟨j, hj, rfl, hbel⟩ := hrel
        have S := Lib.hid hbel
        clear hbel
        by_cases hlt : j < 11
        · have hD : decide ((j : Int) - 1 < 10) = true := by simp; omega
          have jb : (j : Int) ≤ 10 := by omega
          go_upto_region 7 with fail
          have S := Lib.hid (S.out.trans (Below.refl _ _).drew)
          refine wp_region_road (fun W => Below w.heap.size w W) [(true, 0), (true, 1), (true, 2), (true, 5), (true, 6), (true, 7), (false, 3), (true, 4), (false, 8), (true, 9)] (by kernel_rfl) (by kernel_rfl) (fun _ _ d _ _ h => by cases d <;> exact h) ?_
          simp only [List.filterMap_cons, List.filterMap_nil, List.getElem?_toArray, List.getElem?_cons_zero, List.getElem?_cons_succ, Option.map_some]
          refine planG_q (v := ?_) (by rfl) (S.out) ?_ ?_
          rotate_left
          · intro W hW
            go_simp
            with_reducible rfl
          simp only [Act.put, List.setIfInBounds_toArray, List.set_cons_zero, List.set_cons_succ]
          refine planG_q (v := ?_) (by rfl) (S.out) ?_ ?_
          rotate_left
          · intro W hW
            go_simp
            with_reducible rfl
          simp only [Act.put, List.setIfInBounds_toArray, List.set_cons_zero, List.set_cons_succ]
          refine planG_q (v := ?_) (by rfl) (S.out) ?_ ?_
          rotate_left
          · intro W hW
            go_simp
            with_reducible rfl
          simp only [Act.put, List.setIfInBounds_toArray, List.set_cons_zero, List.set_cons_succ]
          refine planG_q (v := ?_) (by rfl) (S.out) ?_ ?_
          rotate_left
          · intro W hW
            go_simp
            with_reducible rfl
          simp only [Act.put, List.setIfInBounds_toArray, List.set_cons_zero, List.set_cons_succ]
          refine planG_q (v := ?_) (by rfl) (S.out) ?_ ?_
          rotate_left
          · intro W hW
            go_simp
            with_reducible rfl
          simp only [Act.put, List.setIfInBounds_toArray, List.set_cons_zero, List.set_cons_succ]
          refine planG_q (v := ?_) (by rfl) (S.out) ?_ ?_
          rotate_left
          · intro W hW
            go_simp
            with_reducible rfl
          simp only [Act.put, List.setIfInBounds_toArray, List.set_cons_zero, List.set_cons_succ]
          refine planG_t (by rfl) (fun K hK => ?_)
          go_simp
          refine (put_any _ A0 m c0 l0 x ((j : Int) - 1) (by omega) ME.out (H0.out.keep S.out) (by have := M2.out; omega)).mono ?_
          obtain ⟨X, hX⟩ : ∃ X, X = l0 ++ beL (putN ((j : Int) - 1)) x.toNat := ⟨_, rfl⟩
          rw [← hX]
          have XE := Lib.hid hX
          rintro e w2 ⟨v, rfl, ho, hb⟩
          obtain ⟨Av, cv, rfl, hr, _⟩ := ho.read
          have S := Lib.hid (show Below w.heap.size w w2 ∧ RdB w2 Av X from ⟨S.out.trans (hb.mono S.out.size), hr⟩)
          clear ho hb hr hX
          refine hK.out _ _ (S.out.1) ?_
          clear hK K
          refine planG_sw (fun W => Below w.heap.size w W ∧ RdB W Av X) (fun W h => h.1) ?_
          refine planG_q (by rfl) (S.out) (fun W hW => run_str 23 9 (.tmp 27) rfl Try.underlying23 Try.underlying5 Try.underlying9 hW.2 X.length cv rfl rfl) ?_
          simp only [Act.put, List.setIfInBounds_toArray, List.set_cons_zero, List.set_cons_succ]
          refine planG_t (by rfl) (fun K hK => ?_)
          go_simp
          refine (rput_any l0 x ((j : Int) - 1) (by omega) (by have := M2.out; have := ME.out; omega) _).mono ?_
          rw [← XE.out]
          rintro e w3 ⟨rfl, hb⟩
          have S := Lib.hid (show Below w.heap.size w w3 ∧ RdB w3 Av X from ⟨S.out.1.trans (hb.mono S.out.1.size), S.out.2.keep hb⟩)
          clear hb
          refine hK.out _ _ (S.out) ?_
          clear hK K
          refine planG_q (by rfl) (S.out) (fun W hW => run_neqstr_false 9 9 (.tmp 28) (.tmp 32) rfl X X rfl rfl rfl W) ?_
          simp only [Act.put, List.setIfInBounds_toArray, List.set_cons_zero, List.set_cons_succ]
          refine planG_nil ?_
          go_wp2_with fail
          go_roundw
          case rel => exact ⟨j + 1, by omega, by go_num, S.out.1⟩
          case measure => simp [intOf]; omega
        · have hD : decide ((j : Int) - 1 < 10) = false := by simp; omega
          go_upto_region 9 with fail
          clear hD
          go_upto_if 37 with fail
          generalize hw : World.alloc wr _ = w2
          have S := Lib.hid (show Below w.heap.size w w2 by rw [← hw]; exact S.out.alloc S.out.size _)
          clear hw
          go_cut [9] (fun u wx => ∃ (A' : Option Addr) (c' : Nat) (y : List UInt8), u = .slice A' y.length c' ∧ y.length ≤ 9000 ∧ RdB w A' y ∧ wx = w2)
          case first =>
            by_cases h0 : 0 < n
            · have hE : decide (0 < n) = true := by simp; omega
              have n0 : (0 : Int) < (n : Int) := by omega
              obtain ⟨y, hl⟩ : ∃ l, ls[0]? = some l := ⟨_, List.getElem?_eq_getElem (by rw [NL.out]; exact h0)⟩
              obtain ⟨v, hv, A', c', rfl, hc', hR'⟩ := HA.out.get 0 y hl
              obtain ⟨b, o, rfl, hcell⟩ := (HR.out.keep S.out) 0 _ hv
              rw [Nat.add_zero] at hcell
              have YB := Lib.hid (show y.length ≤ 9000 by
                have h1 := flat_take_le ls 1
                rw [show (1 : Nat) = 0 + 1 from rfl, List.take_add_one, hl] at h1
                simp at h1
                have := FW.out
                simp at this
                omega)
              obtain ⟨q, hq⟩ : ∃ q, q = y.length := ⟨_, rfl⟩
              rw [← hq] at hcell
              have QE := Lib.hid hq
              have RY := Lib.hid hR'
              clear hl hv hc' hR' hq
              go_wp2_with fail
              go_meet
              exact ⟨A', c', y, by rw [QE.out], YB.out, RY.out, rfl⟩
            · have hE : decide (0 < n) = false := by simp; omega
              go_wp2_with fail
              go_meet
              exact ⟨_, 0, [], rfl, by simp, RdB.nil _ _, rfl⟩
          case rest =>
          obtain ⟨A', c', y, rfl, hyl, hyR, hwx⟩ := hcut
          rw [hwx]
          clear hwx wc
          obtain ⟨q, hq⟩ : ∃ q, q = y.length := ⟨_, rfl⟩
          rw [← hq] at hyl ⊢
          have QE := Lib.hid hq.symm
          have YB := Lib.hid hyl
          have RY := Lib.hid hyR
          clear hyl hyR hq
          go_upto_region 12 with fail
          have S := Lib.hid (S.out.trans (Below.refl _ _).drew)
          refine wp_region_road (fun W => Below w.heap.size w W) [(true, 0), (true, 1), (true, 4), (true, 5), (true, 6), (false, 2), (true, 3), (false, 7), (true, 8), (true, 9), (true, 10), (true, 11), (true, 14), (true, 15), (false, 12), (true, 13), (false, 16), (false, 17), (true, 18), (true, 19), (true, 20), (false, 21), (true, 22), (true, 23)] (by kernel_rfl) (by kernel_rfl) (fun _ _ d _ _ h => by cases d <;> exact h) ?_
          simp only [List.filterMap_cons, List.filterMap_nil, List.getElem?_toArray, List.getElem?_cons_zero, List.getElem?_cons_succ, Option.map_some]
          refine planG_q (v := ?_) (by rfl) (S.out) ?_ ?_
          rotate_left
          · intro W hW
            go_simp
            with_reducible rfl
          simp only [Act.put, List.setIfInBounds_toArray, List.set_cons_zero, List.set_cons_succ]
          refine planG_q (v := ?_) (by rfl) (S.out) ?_ ?_
          rotate_left
          · intro W hW
            go_simp
            with_reducible rfl
          simp only [Act.put, List.setIfInBounds_toArray, List.set_cons_zero, List.set_cons_succ]
          refine planG_q (v := ?_) (by rfl) (S.out) ?_ ?_
          rotate_left
          · intro W hW
            go_simp
            with_reducible rfl
          simp only [Act.put, List.setIfInBounds_toArray, List.set_cons_zero, List.set_cons_succ]
          refine planG_q (v := ?_) (by rfl) (S.out) ?_ ?_
          rotate_left
          · intro W hW
            go_simp
            with_reducible rfl
          simp only [Act.put, List.setIfInBounds_toArray, List.set_cons_zero, List.set_cons_succ]
          refine planG_q (by rfl) (S.out) (fun W hW => run_str 23 9 (.tmp 46) rfl Try.underlying23 Try.underlying5 Try.underlying9 (RY.out.keep hW) q c' QE.out rfl) ?_
          simp only [Act.put, List.setIfInBounds_toArray, List.set_cons_zero, List.set_cons_succ]
          refine planG_t (by rfl) (fun K hK => ?_)
          go_simp
          refine (sized_any _ A0 m c0 l0 A' q c' y ME.out (H0.out.keep S.out) QE.out (RY.out.keep S.out) (by have := M2.out; have := YB.out; omega)).mono ?_
          obtain ⟨X, hX⟩ : ∃ X, X = l0 ++ sizedL y := ⟨_, rfl⟩
          rw [← hX]
          have XE := Lib.hid hX
          rintro e w3 ⟨v, rfl, ho, hb⟩
          obtain ⟨Av, cv, rfl, hr, _⟩ := ho.read
          have S := Lib.hid (show Below w.heap.size w w3 ∧ RdB w3 Av X from ⟨S.out.trans (hb.mono S.out.size), hr⟩)
          clear ho hb hr hX
          refine hK.out _ _ (S.out.1) ?_
          clear hK K
          refine planG_sw (fun W => Below w.heap.size w W ∧ RdB W Av X) (fun W h => h.1) ?_
          refine planG_q (by rfl) (S.out) (fun W hW => run_str 23 9 (.tmp 43) rfl Try.underlying23 Try.underlying5 Try.underlying9 hW.2 X.length cv rfl rfl) ?_
          simp only [Act.put, List.setIfInBounds_toArray, List.set_cons_zero, List.set_cons_succ]
          refine planG_t (by rfl) (fun K hK => ?_)
          go_simp
          refine (rsized_any l0 y q QE.out (by have := M2.out; have := ME.out; omega) (by have := YB.out; omega) _).mono ?_
          rw [← XE.out]
          rintro e w4 ⟨rfl, hb⟩
          have S := Lib.hid (show Below w.heap.size w w4 ∧ RdB w4 Av X from ⟨S.out.1.trans (hb.mono S.out.1.size), S.out.2.keep hb⟩)
          clear hb
          refine hK.out _ _ (S.out) ?_
          clear hK K
          refine planG_q (by rfl) (S.out) (fun W hW => run_eqstr_true 9 9 (.tmp 44) (.tmp 48) rfl X X rfl rfl rfl W) ?_
          simp only [Act.put, List.setIfInBounds_toArray, List.set_cons_zero, List.set_cons_succ]
          refine planG_q (v := ?_) (by rfl) (S.out) ?_ ?_
          rotate_left
          · intro W hW
            go_simp
            with_reducible rfl
          simp only [Act.put, List.setIfInBounds_toArray, List.set_cons_zero, List.set_cons_succ]
          refine planG_q (v := ?_) (by rfl) (S.out) ?_ ?_
          rotate_left
          · intro W hW
            go_simp
            with_reducible rfl
          simp only [Act.put, List.setIfInBounds_toArray, List.set_cons_zero, List.set_cons_succ]
          refine planG_q (v := ?_) (by rfl) (S.out) ?_ ?_
          rotate_left
          · intro W hW
            go_simp
            with_reducible rfl
          simp only [Act.put, List.setIfInBounds_toArray, List.set_cons_zero, List.set_cons_succ]
          refine planG_q (v := ?_) (by rfl) (S.out) ?_ ?_
          rotate_left
          · intro W hW
            go_simp
            with_reducible rfl
          simp only [Act.put, List.setIfInBounds_toArray, List.set_cons_zero, List.set_cons_succ]
          refine planG_q (v := ?_) (by rfl) (S.out) ?_ ?_
          rotate_left
          · intro W hW
            go_simp
            with_reducible rfl
          simp only [Act.put, List.setIfInBounds_toArray, List.set_cons_zero, List.set_cons_succ]
          refine planG_t (by rfl) (fun K hK => ?_)
          go_simp
          refine (wlist_any _ A0 m c0 l0 ME.out (H0.out.keep S.out.1) (by have := M2.out; omega) A n c vs ls NE.out HC.out (HR.out.keep S.out.1) (HA.out.mono fun v l h => h.keep S.out.1) (by have := FW.out; omega) (by have := FW.out; omega)).mono ?_
          obtain ⟨L, hL⟩ : ∃ L, L = l0 ++ listL ls := ⟨_, rfl⟩
          rw [← hL]
          have LE := Lib.hid hL
          rintro e w5 ⟨v, rfl, ho, hb⟩
          obtain ⟨Al, cl, rfl, hr, _⟩ := ho.read
          have S := Lib.hid (show (Below w.heap.size w w5 ∧ RdB w5 Av X) ∧ RdB w5 Al L from ⟨⟨S.out.1.trans (hb.mono S.out.1.size), S.out.2.keep hb⟩, hr⟩)
          clear ho hb hr hL
          refine hK.out _ _ (S.out.1) ?_
          clear hK K
          refine planG_sw (fun W => (Below w.heap.size w W ∧ RdB W Av X) ∧ RdB W Al L) (fun W h => h.1) ?_
          refine planG_q (by rfl) (S.out) (fun W hW => run_str 23 9 (.tmp 53) rfl Try.underlying23 Try.underlying5 Try.underlying9 hW.2 L.length cl rfl rfl) ?_
          simp only [Act.put, List.setIfInBounds_toArray, List.set_cons_zero, List.set_cons_succ]
          refine planG_t (by rfl) (fun K hK => ?_)
          go_simp
          refine (texts_any _ A n c vs ls NE.out (HR.out.keep S.out.1.1) (HA.out.mono fun v l h => h.keep S.out.1.1) (by have := FW.out; omega)).mono ?_
          rintro e w6 ⟨v, rfl, ho, hb⟩
          obtain ⟨At, ct, rfl, hr, _⟩ := ho.read
          rw [StrV_length, NL.out]
          have RT := Lib.hid hr
          have S := Lib.hid (show (Below w.heap.size w w6 ∧ RdB w6 Av X) ∧ RdB w6 Al L from ⟨⟨S.out.1.1.trans (hb.mono S.out.1.1.size), S.out.1.2.keep hb⟩, S.out.2.keep hb⟩)
          clear ho hb hr
          refine hK.out _ _ (S.out) ?_
          clear hK K
          refine planG_t (by rfl) (fun K hK => ?_)
          go_simp
          refine (rwlist_any l0 (by have := M2.out; have := ME.out; omega) At n ct ls NL.out (by have := FW.out; omega) (by have := FW.out; omega) _ RT.out).mono ?_
          rw [← LE.out]
          rintro e w7 ⟨rfl, hb⟩
          have S := Lib.hid (show (Below w.heap.size w w7 ∧ RdB w7 Av X) ∧ RdB w7 Al L from ⟨⟨S.out.1.1.trans (hb.mono S.out.1.1.size), S.out.1.2.keep hb⟩, S.out.2.keep hb⟩)
          clear hb RT
          refine hK.out _ _ (S.out) ?_
          clear hK K
          refine planG_q (by rfl) (S.out) (fun W hW => run_eqstr_true 9 9 (.tmp 54) (.tmp 58) rfl L L rfl rfl rfl W) ?_
          simp only [Act.put, List.setIfInBounds_toArray, List.set_cons_zero, List.set_cons_succ]
          refine planG_q (v := ?_) (by rfl) (S.out) ?_ ?_
          rotate_left
          · intro W hW
            go_simp
            with_reducible rfl
          simp only [Act.put, List.setIfInBounds_toArray, List.set_cons_zero, List.set_cons_succ]
          refine planG_q (v := ?_) (by rfl) (S.out) ?_ ?_
          rotate_left
          · intro W hW
            go_simp
            with_reducible rfl
          simp only [Act.put, List.setIfInBounds_toArray, List.set_cons_zero, List.set_cons_succ]
          refine planG_t (by rfl) (fun K hK => ?_)
          go_simp
          refine (wireOne_true _).mono ?_
          rintro e w8 ⟨rfl, hb⟩
          have S := Lib.hid (show (Below w.heap.size w w8 ∧ RdB w8 Av X) ∧ RdB w8 Al L from ⟨⟨S.out.1.1.trans (hb.mono S.out.1.1.size), S.out.1.2.keep hb⟩, S.out.2.keep hb⟩)
          clear hb
          refine hK.out _ _ (S.out) ?_
          clear hK K
          refine planG_q (v := ?_) (by rfl) (S.out) ?_ ?_
          rotate_left
          · intro W hW
            go_simp
            with_reducible rfl
          simp only [Act.put, List.setIfInBounds_toArray, List.set_cons_zero, List.set_cons_succ]
          refine planG_q (v := ?_) (by rfl) (S.out) ?_ ?_
          rotate_left
          · intro W hW
            go_simp
            with_reducible rfl
          simp only [Act.put, List.setIfInBounds_toArray, List.set_cons_zero, List.set_cons_succ]
          refine planG_nil ?_
          go_wp2_with fail
          go_ret
          exact ⟨rfl, S.out.1.1⟩
end Go.Proofs.Ytcmpiockcndejaa
