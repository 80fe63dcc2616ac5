/- kdf.Equal: two texts are told to be the same just if they are. No condition but those each theorem states. -/
import Derived.Test.YtdheopihcohciaaProg
import Derived.Test.YtdheopihcohciaaGPlan
import Derived.Test.YtdheopihcohciaaOps
namespace Go.Proofs.Ytdheopihcohciaa
set_option linter.unusedVariables false
set_option linter.unusedSimpArgs false
open Go.RowKit
attribute [local go_sem ↓] Go.wp_at_zero Go.wp_at_succ

theorem orxor_ex (u a b : UInt8) : ∃ z y : UInt8, Hid (z = u ||| (a ^^^ b)) ∧ bits .xor .u8 (a.toNat : Int) (b.toNat : Int) = (y.toNat : Int) ∧ bits .or .u8 (u.toNat : Int) (y.toNat : Int) = (z.toNat : Int) := by
  refine ⟨_, a ^^^ b, rfl, u8_xor' a b, ?_⟩
  rw [u8_or_nat _ _ u.toNat_lt (a ^^^ b).toNat_lt, UInt8.toNat_or]
theorem orxor_zero (u a b : UInt8) : u ||| (a ^^^ b) = 0 ↔ u = 0 ∧ a = b := by
  constructor
  · intro h
    have h1 : u = 0 := by
      apply UInt8.toNat_inj.1
      have := congrArg UInt8.toNat h
      rw [UInt8.toNat_or] at this
      exact (Nat.or_eq_zero_iff.1 this).1
    have h2 : a ^^^ b = 0 := by
      apply UInt8.toNat_inj.1
      have := congrArg UInt8.toNat h
      rw [UInt8.toNat_or] at this
      exact (Nat.or_eq_zero_iff.1 this).2
    exact ⟨h1, UInt8.xor_eq_zero_iff.1 h2⟩
  · rintro ⟨rfl, rfl⟩
    simp
theorem take_succ_eq (a b : List UInt8) (j : Nat) (ha : j < a.length) (hb : j < b.length) : (a.take (j + 1) = b.take (j + 1)) ↔ (a.take j = b.take j ∧ a.getD j 0 = b.getD j 0) := by
  rw [List.take_add_one, List.take_add_one, List.getElem?_eq_getElem ha, List.getElem?_eq_getElem hb]
  simp only [List.getD_eq_getElem?_getD, List.getElem?_eq_getElem ha, List.getElem?_eq_getElem hb, Option.toList, Option.getD_some]
  constructor
  · intro h
    have := List.append_inj h (by simp; omega)
    exact ⟨this.1, by simpa using this.2⟩
  · rintro ⟨h1, h2⟩
    rw [h1, h2]
set_option maxRecDepth 100000 in
set_option maxHeartbeats 2000000 in
theorem equal_any (w : World) (A : Option Addr) (n c : Nat) (a : List UInt8) (hn : a.length = n) (hR : RdB w A a) (A2 : Option Addr) (n2 c2 : Nat) (b : List UInt8) (hn2 : b.length = n2) (hR2 : RdB w A2 b) (hb : n ≤ 140737488355328) (hb2 : n2 ≤ 140737488355328) :
    Calls Try.prog 21 #[.slice A n c, .slice A2 n2 c2] w fun e w' => e = .returned (.bool (decide (a = b))) ∧ Below w.heap.size w w' := by
  have HN := Lib.hid hn
  have HR := Lib.hid hR
  have HN2 := Lib.hid hn2
  have HR2 := Lib.hid hR2
  clear hn hR hn2 hR2
  go_enter Try.func21, Try.ntmps21
  by_cases he : n = n2
  · have hE : decide ((n : Int) = (n2 : Int)) = true := by simp; omega
    have hE2 : ((n : Int) != (n2 : Int)) = false := by simp; omega
    have NE := Lib.hid he
    clear he
    go_wp2_with fail
    clear hE hE2
    go_loopw [5, 6, 14] (fun u _ i wr => ∃ (j : Nat) (x : UInt8), j ≤ n ∧ i = .int .i64 (j : Int) ∧ u = .int .u8 (x.toNat : Int) ∧ (x = 0 ↔ a.take j = b.take j) ∧ Below w.heap.size w wr) (fun _ _ i _ => n - (intOf i).toNat)
    case atStart => exact ⟨0, 0, by omega, rfl, rfl, by simp, Below.refl _ _⟩
    case round =>
      obtain ⟨j, x, hj, rfl, rfl, hx, hbel⟩ := hrel
      have J := Lib.hid hj
      have X := Lib.hid hx
      have BL := Lib.hid hbel
      clear hj hx hbel
      by_cases hlt : j < n
      · have hD : decide ((j : Int) < (n : Int)) = true := by simp; omega
        obtain ⟨b1, o1, rfl, h1⟩ := (HR.out.keep BL.out) j (by rw [HN.out]; exact hlt)
        obtain ⟨b2, o2, rfl, h2⟩ := (HR2.out.keep BL.out) j (by rw [HN2.out]; have := NE.out; omega)
        obtain ⟨y, hy⟩ : ∃ y, y = a.getD j 0 := ⟨_, rfl⟩
        obtain ⟨v, hv⟩ : ∃ y, y = b.getD j 0 := ⟨_, rfl⟩
        rw [← hy] at h1
        rw [← hv] at h2
        have Y := Lib.hid hy
        have V := Lib.hid hv
        obtain ⟨z, t, hz, e1, e2⟩ := orxor_ex x y v
        have c1 := Lib.hid h1
        have c2 := Lib.hid h2
        have l1 : (j : Int) < (n : Int) := by omega
        have l2 : (j : Int) < (n2 : Int) := by have := NE.out; omega
        clear hy hv h1 h2
        go_upto_region 7 with fail
        have S1 := Lib.hid (show (wr.drew).cell? ⟨b1, o1 + j, none⟩ = some (.int .u8 (y.toNat : Int)) ∧ (wr.drew).cell? ⟨b2, o2 + j, none⟩ = some (.int .u8 (v.toNat : Int)) from ⟨c1.out, c2.out⟩)
        refine wp_region_road (fun W => W.cell? ⟨b1, o1 + j, none⟩ = some (.int .u8 (y.toNat : Int)) ∧ W.cell? ⟨b2, o2 + j, none⟩ = some (.int .u8 (v.toNat : Int))) [(true, 0), (true, 1), (true, 2), (true, 3), (true, 4), (true, 5), (true, 6), (true, 7), (true, 8), (true, 9), (true, 10), (true, 11)] (by kernel_rfl) (by kernel_rfl) (fun _ _ d _ _ h => by cases d <;> exact h) ?_
        simp only [List.filterMap_cons, List.filterMap_nil, List.getElem?_toArray, List.getElem?_cons_zero, List.getElem?_cons_succ, Option.map_some]
        refine planG_q (v := ?_) (by rfl) (S1.out) ?_ ?_
        rotate_left
        · intro W hW
          go_simp
          with_reducible rfl
        simp only [Act.put, List.setIfInBounds_toArray, List.set_cons_zero, List.set_cons_succ]
        refine planG_q (v := ?_) (by rfl) (S1.out) ?_ ?_
        rotate_left
        · intro W hW
          go_simp
          with_reducible rfl
        simp only [Act.put, List.setIfInBounds_toArray, List.set_cons_zero, List.set_cons_succ]
        refine planG_q (v := ?_) (by rfl) (S1.out) ?_ ?_
        rotate_left
        · intro W hW
          go_simp
          with_reducible rfl
        simp only [Act.put, List.setIfInBounds_toArray, List.set_cons_zero, List.set_cons_succ]
        refine planG_q (v := ?_) (by rfl) (S1.out) ?_ ?_
        rotate_left
        · intro W hW
          go_simp
          with_reducible rfl
        simp only [Act.put, List.setIfInBounds_toArray, List.set_cons_zero, List.set_cons_succ]
        refine planG_q (by rfl) (S1.out) (fun W hW => run_cell 5 (.tmp 20) rfl _ Try.underlying5 rfl rfl hW.1) ?_
        simp only [Act.put, List.setIfInBounds_toArray, List.set_cons_zero, List.set_cons_succ]
        refine planG_q (v := ?_) (by rfl) (S1.out) ?_ ?_
        rotate_left
        · intro W hW
          go_simp
          with_reducible rfl
        simp only [Act.put, List.setIfInBounds_toArray, List.set_cons_zero, List.set_cons_succ]
        refine planG_q (v := ?_) (by rfl) (S1.out) ?_ ?_
        rotate_left
        · intro W hW
          go_simp
          with_reducible rfl
        simp only [Act.put, List.setIfInBounds_toArray, List.set_cons_zero, List.set_cons_succ]
        refine planG_q (v := ?_) (by rfl) (S1.out) ?_ ?_
        rotate_left
        · intro W hW
          go_simp
          with_reducible rfl
        simp only [Act.put, List.setIfInBounds_toArray, List.set_cons_zero, List.set_cons_succ]
        refine planG_q (by rfl) (S1.out) (fun W hW => run_cell 5 (.tmp 24) rfl _ Try.underlying5 rfl rfl hW.2) ?_
        simp only [Act.put, List.setIfInBounds_toArray, List.set_cons_zero, List.set_cons_succ]
        refine planG_q (v := ?_) (by rfl) (S1.out) ?_ ?_
        rotate_left
        · intro W hW
          go_simp
          with_reducible rfl
        simp only [Act.put, List.setIfInBounds_toArray, List.set_cons_zero, List.set_cons_succ]
        refine planG_q (v := ?_) (by rfl) (S1.out) ?_ ?_
        rotate_left
        · intro W hW
          go_simp
          with_reducible rfl
        simp only [Act.put, List.setIfInBounds_toArray, List.set_cons_zero, List.set_cons_succ]
        refine planG_q (v := ?_) (by rfl) (S1.out) ?_ ?_
        rotate_left
        · intro W hW
          go_simp
          with_reducible rfl
        simp only [Act.put, List.setIfInBounds_toArray, List.set_cons_zero, List.set_cons_succ]
        refine planG_nil ?_
        go_wp2_with fail
        go_roundw
        case rel => exact ⟨j + 1, z, by omega, by go_num, rfl, by rw [hz.out, orxor_zero, X.out, Y.out, V.out, take_succ_eq a b j (by rw [HN.out]; exact hlt) (by rw [HN2.out]; have := NE.out; omega)], BL.out.drew⟩
        case measure => simp [intOf]; omega
      · have hjn : Hid (j = n) := show j = n by have := J.out; omega
        have hD : decide ((j : Int) < (n : Int)) = false := by simp; omega
        have FX := Lib.hid (show x = 0 ↔ a = b by
          have := X.out
          rwa [hjn.out, List.take_of_length_le (by rw [HN.out]; omega), List.take_of_length_le (by rw [HN2.out]; have := NE.out; omega)] at this)
        by_cases hx0 : x = 0
        · have hF : ((x.toNat : Int) == 0) = true := by simp [hx0]
          have hG := Lib.hid (show decide (a = b) = true by simp; exact FX.out.1 hx0)
          go_wp2_with fail
          go_ret
          exact ⟨by rw [hG.out]; rfl, BL.out⟩
        · have hF : ((x.toNat : Int) == 0) = false := by
            simp only [beq_eq_false_iff_ne, ne_eq]
            intro h
            exact hx0 (UInt8.toNat_inj.1 (by show x.toNat = 0; omega))
          have hG := Lib.hid (show decide (a = b) = false by simp; exact fun h => hx0 (FX.out.2 h))
          go_wp2_with fail
          go_ret
          exact ⟨by rw [hG.out]; rfl, BL.out⟩
  · have hE : decide ((n : Int) = (n2 : Int)) = false := by simp; omega
    have hE2 : ((n : Int) != (n2 : Int)) = true := by simp; omega
    have hG : decide (a = b) = false := by simp; intro h; apply he; rw [← HN.out, ← HN2.out, h]
    rw [hG]
    go_wp2_with fail
    go_ret
    exact ⟨rfl, Below.refl _ _⟩
end Go.Proofs.Ytdheopihcohciaa
