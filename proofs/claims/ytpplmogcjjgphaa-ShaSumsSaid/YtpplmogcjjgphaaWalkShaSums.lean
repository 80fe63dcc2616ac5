/- The law ShaSums, walked. -/
import Derived.Test.YtpplmogcjjgphaaRefShaS
import Derived.Test.YtpplmogcjjgphaaShaOne
import Derived.Test.YtpplmogcjjgphaaEqArr
namespace Go.Proofs.Ytpplmogcjjgphaa
set_option linter.unusedVariables false
set_option linter.unusedSimpArgs false
open Go.RowKit
attribute [local go_sem ↓] Go.wp_at_zero Go.wp_at_succ

set_option maxRecDepth 100000 in
set_option maxHeartbeats 2000000 in
theorem shaSums_walk (w : World) (A0 : Option Addr) (c0 : Nat) (l0 : List UInt8) (R0 : RdB w A0 l0) (n0 : l0.length ≤ c0) (m0 : c0 ≤ 9223372036854775807) (b0 : ∀ a, A0 = some a → a.block < w.heap.size) (z0 : l0.length ≤ 140737488351232) :
    Calls Try.prog 3 #[.slice A0 l0.length c0] w fun e w' => e = .returned (.bool true) ∧ Below w.heap.size w w' := by
  obtain ⟨m, hm⟩ : ∃ m, m = l0.length := ⟨_, rfl⟩
  rw [← hm] at n0 z0 ⊢
  have LE := Lib.hid hm.symm
  have R1 := Lib.hid R0
  have C1 := Lib.hid n0
  have lx : (m : Int) ≤ 140737488351232 := by omega
  obtain ⟨i0, hi, hz0, hz1, hz2⟩ := info_parts (show (Try.prog.info? 5).map (fun i => (i.zero, i.size, i.bytes)) = some (some (.int .u8 0), 1, 1) by kernel_rfl)
  have I0 := Lib.hid hi
  have I2 := Lib.hid hz1
  clear hi hz0 hz1 hz2 hm R0 n0 b0
  go_enter Try.func3, Try.ntmps3
  go_upto_if 5 with fail
  go_cut [0] (fun u wx => ∃ x : List UInt8, u = .slice A0 x.length c0 ∧ x.length ≤ 3000 ∧ x.length ≤ c0 ∧ RdB w A0 x ∧ wx = w)
  case first =>
    by_cases h3 : 3000 < m
    · have hE : decide ((3000 : Int) < (m : Int)) = true := by simp; omega
      have hcut := cut_to (P := Try.prog) 22 5 Try.underlying22 I0.out I2.out A0 m c0 3000 (by have := C1.out; omega)
      have b3 : (3000 : Int) ≤ (c0 : Int) := by have := C1.out; omega
      go_wp2_with fail
      go_meet
      have e3 : (l0.take 3000).length = 3000 := by have := LE.out; rw [List.length_take]; omega
      exact ⟨l0.take 3000, by rw [e3], by omega, by have := C1.out; omega, R1.out.take _, rfl⟩
    · have hE : decide ((3000 : Int) < (m : Int)) = false := by simp; omega
      go_wp2_with fail
      go_meet
      exact ⟨l0, by rw [LE.out], by have := LE.out; omega, by rw [LE.out]; exact C1.out, R1.out, rfl⟩
  case rest =>
  obtain ⟨x, rfl, hx3, hxc, hxR, hwx⟩ := hcut
  rw [hwx]
  clear hwx
  obtain ⟨k, hk⟩ : ∃ k, k = x.length := ⟨_, rfl⟩
  rw [← hk] at hx3 hxc ⊢
  have KE := Lib.hid hk.symm
  have XC := Lib.hid hxc
  have XR := Lib.hid hxR
  have X3 := Lib.hid hx3
  clear hk hxc hxR hx3 R1 C1 lx LE m0 z0
  go_upto_region 3 with fail
  have S1 := Lib.hid (show RdB w.drew A0 x ∧ Below w.heap.size w w.drew from ⟨XR.out, (Below.refl _ _).drew⟩)
  refine wp_region_road (fun W => RdB W A0 x ∧ Below w.heap.size w W) [(true, 0), (true, 2), (true, 3), (false, 1), (false, 4), (true, 5), (true, 6), (false, 7), (true, 8), (true, 9)] (by kernel_rfl) (by kernel_rfl) (fun _ _ d _ _ h => by cases d <;> exact h) ?_
  simp only [List.filterMap_cons, List.filterMap_nil, List.getElem?_toArray, List.getElem?_cons_zero, List.getElem?_cons_succ, Option.map_some]
  refine planG_q (v := ?_) (by rfl) (S1.out) ?_ ?_
  rotate_left
  · intro W hW
    go_simp
    with_reducible rfl
  simp only [Act.put, List.setIfInBounds_toArray, List.set_cons_zero, List.set_cons_succ]
  refine planG_q (v := ?_) (by rfl) (S1.out) ?_ ?_
  rotate_left
  · intro W hW
    go_simp
    with_reducible rfl
  simp only [Act.put, List.setIfInBounds_toArray, List.set_cons_zero, List.set_cons_succ]
  refine planG_q (by rfl) (S1.out) (fun W hW => run_str 22 9 (.tmp 10) rfl Try.underlying22 Try.underlying5 Try.underlying9 hW.1 k c0 KE.out rfl) ?_
  simp only [Act.put, List.setIfInBounds_toArray, List.set_cons_zero, List.set_cons_succ]
  refine planG_t (by rfl) (fun K hK => ?_)
  go_simp
  refine (shaSum_any _ A0 k c0 x KE.out XC.out S1.out.1 (by have := X3.out; omega)).mono ?_
  rintro e w2 ⟨rfl, hb2⟩
  have S2 := Lib.hid (show RdB w2 A0 x ∧ Below w.heap.size w w2 from ⟨S1.out.1.keep hb2, S1.out.2.trans (hb2.mono S1.out.2.size)⟩)
  clear hb2 S1
  refine hK.out _ _ (S2.out) ?_
  clear hK K
  refine planG_t (by rfl) (fun K hK => ?_)
  go_simp
  refine (rsum_any x (by have := X3.out; have := KE.out; omega) _).mono ?_
  rintro e w3 ⟨rfl, hb3⟩
  have S3 := Lib.hid (show RdB w3 A0 x ∧ Below w.heap.size w w3 from ⟨S2.out.1.keep hb3, S2.out.2.trans (hb3.mono S2.out.2.size)⟩)
  clear hb3 S2
  refine hK.out _ _ (S3.out) ?_
  clear hK K
  refine planG_q (by rfl) (S3.out) (fun W hW => run_eq_arr_true 23 _ (.tmp 9) (.tmp 12) rfl 5 32 Try.underlying23 Try.underlying5 (by kernel_rfl) (by kernel_rfl) (hashL x) (hashL x) (hashL_length _) rfl rfl rfl W) ?_
  simp only [Act.put, List.setIfInBounds_toArray, List.set_cons_zero, List.set_cons_succ]
  refine planG_q (v := ?_) (by rfl) (S3.out) ?_ ?_
  rotate_left
  · intro W hW
    go_simp
    with_reducible rfl
  simp only [Act.put, List.setIfInBounds_toArray, List.set_cons_zero, List.set_cons_succ]
  refine planG_t (by rfl) (fun K hK => ?_)
  go_simp
  refine (shaOne_true _).mono ?_
  rintro e w4 ⟨rfl, hb4⟩
  have S4 := Lib.hid (show RdB w4 A0 x ∧ Below w.heap.size w w4 from ⟨S3.out.1.keep hb4, S3.out.2.trans (hb4.mono S3.out.2.size)⟩)
  clear hb4 S3
  refine hK.out _ _ (S4.out) ?_
  clear hK K
  refine planG_q (v := ?_) (by rfl) (S4.out) ?_ ?_
  rotate_left
  · intro W hW
    go_simp
    with_reducible rfl
  simp only [Act.put, List.setIfInBounds_toArray, List.set_cons_zero, List.set_cons_succ]
  refine planG_q (v := ?_) (by rfl) (S4.out) ?_ ?_
  rotate_left
  · intro W hW
    go_simp
    with_reducible rfl
  simp only [Act.put, List.setIfInBounds_toArray, List.set_cons_zero, List.set_cons_succ]
  refine planG_nil ?_
  go_wp2_with fail
  go_ret
  exact ⟨rfl, S4.out.2⟩
end Go.Proofs.Ytpplmogcjjgphaa
