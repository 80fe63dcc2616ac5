/- The law ShaOf, walked. -/
import Derived.Test.YtpplmogcjjgphaaShaOne
import Derived.Test.YtpplmogcjjgphaaEqArr
namespace Go.Proofs.Ytpplmogcjjgphaa
set_option linter.unusedVariables false
set_option linter.unusedSimpArgs false
open Go.RowKit
attribute [local go_sem ↓] Go.wp_at_zero Go.wp_at_succ

set_option maxRecDepth 100000 in
set_option maxHeartbeats 2000000 in
theorem shaOf_walk (w : World) (A0 : Option Addr) (c0 : Nat) (l0 : List UInt8) (R0 : RdB w A0 l0) (n0 : l0.length ≤ c0) (m0 : c0 ≤ 9223372036854775807) (b0 : ∀ a, A0 = some a → a.block < w.heap.size) (z0 : l0.length ≤ 140737488351232)
    (A1 : Option Addr) (c1 : Nat) (l1 : List UInt8) (R1 : RdB w A1 l1) (n1 : l1.length ≤ c1) (m1 : c1 ≤ 9223372036854775807) (b1 : ∀ a, A1 = some a → a.block < w.heap.size) (z1 : l1.length ≤ 140737488351232)
    (A2 : Option Addr) (c2 : Nat) (l2 : List UInt8) (R2 : RdB w A2 l2) (n2 : l2.length ≤ c2) (m2 : c2 ≤ 9223372036854775807) (b2 : ∀ a, A2 = some a → a.block < w.heap.size) (z2 : l2.length ≤ 140737488351232) :
    Calls Try.prog 4 #[.slice A0 l0.length c0, .slice A1 l1.length c1, .slice A2 l2.length c2] w fun e w' => e = .returned (.bool true) ∧ Below w.heap.size w w' := by
  obtain ⟨q0, hq0⟩ : ∃ q, q = l0.length := ⟨_, rfl⟩
  obtain ⟨q1, hq1⟩ : ∃ q, q = l1.length := ⟨_, rfl⟩
  obtain ⟨q2, hq2⟩ : ∃ q, q = l2.length := ⟨_, rfl⟩
  rw [← hq0] at n0 z0 ⊢
  rw [← hq1] at n1 z1 ⊢
  rw [← hq2] at n2 z2 ⊢
  have Q0 := Lib.hid hq0.symm
  have Q1 := Lib.hid hq1.symm
  have Q2 := Lib.hid hq2.symm
  have S0 := Lib.hid R0
  have S1 := Lib.hid R1
  have S2 := Lib.hid R2
  have N0 := Lib.hid n0
  have N1 := Lib.hid n1
  have N2 := Lib.hid n2
  have d0 : (q0 : Int) ≤ 140737488351232 := by omega
  have d1 : (q1 : Int) ≤ 140737488351232 := by omega
  have d2 : (q2 : Int) ≤ 140737488351232 := by omega
  clear R0 R1 R2 hq0 hq1 hq2 n0 n1 n2 b0 b1 b2
  by_cases h1 : 4000 < q0 + q1
  · have hD : decide ((4000 : Int) < (q0 : Int) + (q1 : Int)) = true := by simp; omega
    go_enter Try.func4, Try.ntmps4
    go_wp2_with fail
    go_ret
    exact ⟨rfl, Below.refl _ _⟩
  · by_cases h2 : 2000 < q2
    · have hD : decide ((4000 : Int) < (q0 : Int) + (q1 : Int)) = false := by simp; omega
      have hE : decide ((2000 : Int) < (q2 : Int)) = true := by simp; omega
      go_enter Try.func4, Try.ntmps4
      go_wp2_with fail
      go_ret
      exact ⟨rfl, Below.refl _ _⟩
    · have hD : decide ((4000 : Int) < (q0 : Int) + (q1 : Int)) = false := by simp; omega
      have hE : decide ((2000 : Int) < (q2 : Int)) = false := by simp; omega
      have TB := Lib.hid (show ByteT Try.prog from ⟨Try.underlying22, by kernel_rfl⟩)
      go_enter Try.func4, Try.ntmps4
      go_wp2_with fail
      have B0 := Lib.hid (show Below w.heap.size w (w.alloc (.cells #[.slice A0 q0 c0, .slice A1 q1 c1, .slice A2 q2 c2] 22)) from (Below.refl _ _).alloc (Nat.le_refl _) _)
      refine (of_any _ (some ⟨w.heap.size, 0, none⟩) 3 3 [.slice A0 q0 c0, .slice A1 q1 c1, .slice A2 q2 c2] [l0, l1, l2] rfl (RdV.row (t := 22) (fr := (0, 0)) (ha_new w _ _ rfl))
        (.cons ⟨A0, c0, by rw [Q0.out], by rw [Q0.out]; exact N0.out, S0.out.keep B0.out⟩ (.cons ⟨A1, c1, by rw [Q1.out], by rw [Q1.out]; exact N1.out, S1.out.keep B0.out⟩ (.cons ⟨A2, c2, by rw [Q2.out], by rw [Q2.out]; exact N2.out, S2.out.keep B0.out⟩ .nil))) ?o1 (by omega)).mono ?_
      case o1 => have := Q0.out; have := Q1.out; have := Q2.out; simp; omega
      rintro e w1 ⟨rfl, hb1⟩
      have B1 := Lib.hid (B0.out.trans (hb1.mono (by simp)))
      obtain ⟨H, hH⟩ : ∃ H, H = hashL [l0, l1, l2].flatten := ⟨_, rfl⟩
      rw [← hH]
      have HH := Lib.hid hH
      have HL := Lib.hid (show H.length = 32 by rw [hH, hashL_length])
      clear hb1 hH
      go_wp2_with (refine app_list rfl TB.out (.tmp 23) (.tmp 24) rfl w1.heap.size _ [] l0 A0 q0 c0 rfl rfl Q0.out (World.ownsRow_made w1 #[] 0 (Nat.le_refl _) (Nat.zero_le _) rfl) ?p1 ?p2 ?p3 ?_)
      case p1 => exact (S0.out.keep B1.out).keep ((Below.refl _ _).alloc (Nat.le_refl _) _)
      case p2 => simp
      case p3 => simp; omega
      intro v1 w2 ho hg _
      have O1 := Lib.hid ho
      have B2 := Lib.hid (show Below w1.heap.size w1 w2 from ((Below.refl _ _).alloc (Nat.le_refl _) _).trans (grown_below hg (by simp) (fun g e => by simp [Value.ownBlock] at e; omega)))
      clear ho hg
      go_wp2_with (refine app_list rfl TB.out (.tmp 25) (.tmp 26) rfl w1.heap.size _ _ l1 A1 q1 c1 rfl rfl Q1.out O1.out ?p4 ?p5 ?p6 ?_)
      case p4 => exact (S1.out.keep B1.out).keep B2.out
      case p5 => exact B2.out.size
      case p6 => have := Q0.out; simp; omega
      intro v2 w3 ho hg _
      have O2 := Lib.hid ho
      have B3 := Lib.hid (B2.out.trans (grown_below hg B2.out.size (fun g e => (O1.out.lt g e).1)))
      clear ho hg O1 B2
      go_wp2_with (refine app_list rfl TB.out (.tmp 27) (.tmp 28) rfl w1.heap.size _ _ l2 A2 q2 c2 rfl rfl Q2.out O2.out ?p7 ?p8 ?p9 ?_)
      case p7 => exact (S2.out.keep B1.out).keep B3.out
      case p8 => exact B3.out.size
      case p9 => have := Q0.out; have := Q1.out; simp; omega
      intro v3 w4 ho hg _
      have B4 := Lib.hid (B3.out.trans (grown_below hg B3.out.size (fun g e => (O2.out.lt g e).1)))
      obtain ⟨A4, c4, rfl, hr4, hl4, _, _⟩ := ho.read
      obtain ⟨q4, hq4⟩ : ∃ q, q = (l0 ++ (l1 ++ l2)).length := ⟨_, rfl⟩
      rw [← hq4] at hl4 ⊢
      have Q4 := Lib.hid hq4.symm
      have L4 := Lib.hid hl4
      have R4 := Lib.hid hr4
      clear ho hg hr4 hl4 hq4 O2 B3
      go_wp2_with fail
      refine (shaSum_any _ A4 q4 c4 _ Q4.out L4.out R4.out ?o2).mono ?_
      case o2 => have := Q0.out; have := Q1.out; have := Q2.out; have := Q4.out; simp at this; omega
      rintro e w5 ⟨rfl, hb5⟩
      have B5 := Lib.hid (B1.out.trans ((B4.out.mono B1.out.size).trans (hb5.mono (Nat.le_trans B1.out.size B4.out.size))))
      clear hb5 B4 R4 L4
      go_wp2_with (refine wpList_val rfl (run_eq_arr_true 23 _ (.tmp 22) (.tmp 30) rfl 5 32 Try.underlying23 Try.underlying5 (by kernel_rfl) (by kernel_rfl) H _ HL.out ?o3 rfl rfl _) ?_)
      case o3 => rw [HH.out]; simp
      go_wp2_with fail
      refine (of_any _ none 0 0 [] [] rfl (RdV.nil _ _) .nil (by simp) (by omega)).mono ?_
      rintro e w6 ⟨rfl, hb6⟩
      have B6 := Lib.hid (B5.out.trans (hb6.mono B5.out.size))
      clear hb6
      go_wp2_with fail
      refine (shaSum_any _ none 0 0 [] rfl (Nat.le_refl _) (RdB.nil _ _) (by omega)).mono ?_
      rintro e w7 ⟨rfl, hb7⟩
      have B7 := Lib.hid (B6.out.trans (hb7.mono B6.out.size))
      clear hb7
      go_wp2_with (refine wpList_valg (by rfl) (run_eq_arr_true 23 _ (.tmp 33) (.tmp 34) rfl 5 32 Try.underlying23 Try.underlying5 (by kernel_rfl) (by kernel_rfl) (hashL [].flatten) (hashL []) (hashL_length _) rfl rfl rfl _) ?_)
      refine (shaOne_true _).mono ?_
      rintro e w8 ⟨rfl, hb8⟩
      go_wp2_with fail
      go_ret
      exact ⟨rfl, B7.out.trans (hb8.mono B7.out.size)⟩
end Go.Proofs.Ytpplmogcjjgphaa
