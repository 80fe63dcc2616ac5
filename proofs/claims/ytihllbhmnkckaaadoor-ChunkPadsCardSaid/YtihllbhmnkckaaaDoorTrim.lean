/- bytes.Trim of zeros. No condition but those each theorem states. -/
import Derived.Test.YtihllbhmnkckaaaDoorClone
import Derived.Test.YtihllbhmnkckaaaDoorHelp
import Derived.Test.YtihllbhmnkckaaaDoorCuts
import Derived.Test.YtihllbhmnkckaaaDoorGPlan
namespace Go.Proofs.YtihllbhmnkckaaaDoor
set_option linter.unusedVariables false
set_option linter.unusedSimpArgs false
open Go.RowKit
attribute [local go_sem ↓] Go.wp_at_zero Go.wp_at_succ

/-- How many bytes are left of the first n when zeros are cut off behind. -/
def trimN (l : List UInt8) : Nat → Nat
  | 0 => 0
  | n + 1 => if l.getD n 0 = 0 then trimN l n else n + 1
theorem trimN_le (l : List UInt8) (n : Nat) : trimN l n ≤ n := by
  induction n with
  | zero => exact Nat.le_refl _
  | succ n ih => unfold trimN; split <;> omega
theorem trimN_last (l : List UInt8) (n m : Nat) (h : trimN l n = m + 1) : l.getD m 0 ≠ 0 := by
  induction n with
  | zero => exact absurd h (by simp [trimN])
  | succ n ih =>
    unfold trimN at h
    split at h
    · exact ih h
    · rename_i h2
      obtain rfl : n = m := by omega
      exact h2
theorem trimN_zero (l : List UInt8) (n : Nat) : trimN l n = 0 ↔ ∀ j, j < n → l.getD j 0 = 0 := by
  induction n with
  | zero => simp [trimN]
  | succ n ih =>
    unfold trimN
    split
    · rename_i h
      rw [ih]
      exact ⟨fun h2 j hj => by rcases Nat.lt_or_ge j n with h3 | h3; exact h2 j h3; rw [show j = n by omega]; exact h, fun h2 j hj => h2 j (by omega)⟩
    · rename_i h
      exact ⟨fun h2 => absurd h2 (by omega), fun h2 => absurd (h2 n (by omega)) h⟩
theorem u8_eq0 (x : UInt8) : ((x.toNat : Int) == 0) = decide (x = 0) := by
  by_cases h : x = 0
  · subst h; rfl
  · have h2 : x.toNat ≠ 0 := fun e => h (UInt8.toNat.inj e)
    simp [h]
    omega
set_option maxRecDepth 100000 in
set_option maxHeartbeats 1000000 in
theorem trimRight_any (w : World) (A : Option Addr) (n c : Nat) (l : List UInt8) (hn : l.length = n) (hc : n ≤ c) (hR : RdB w A l) (hb : n ≤ 100000) :
    Calls Tryd.prog 30 #[.slice A n c, .int .u8 0] w fun e w' => e = .returned (.slice A (trimN l n) c) ∧ w' = w := by
  obtain ⟨i0, hi, hz0, hz1, hz2⟩ := info_parts (show (Tryd.prog.info? 5).map (fun i => (i.zero, i.size, i.bytes)) = some (some (.int .u8 0), 1, 1) by kernel_rfl)
  have I0 := Lib.hid hi
  have I1 := Lib.hid hz1
  have HN := Lib.hid hn
  have HC := Lib.hid hc
  have HR := Lib.hid hR
  have HB := Lib.hid hb
  clear hi hz0 hz1 hz2 hn hc hR hb
  go_enter Tryd.func30, Tryd.ntmps30
  go_wp2_with fail
  go_loopw [0] (fun v wr => ∃ j : Nat, j ≤ n ∧ v = .slice A j c ∧ trimN l n = trimN l j ∧ wr = w) (fun v _ => lenOf v)
  case atStart => exact ⟨n, Nat.le_refl _, rfl, rfl, rfl⟩
  case round =>
    obtain ⟨j, hj, rfl, ht, hw⟩ := hrel
    rw [hw]
    have J := Lib.hid hj
    have T := Lib.hid ht
    clear hj ht hw wr
    rcases Nat.eq_zero_or_pos j with h0 | h0
    · have Z := Lib.hid (show trimN l n = 0 by rw [T.out, h0]; rfl)
      have hD : decide ((0 : Int) < (j : Int)) = false := by simp; omega
      have hD2 : decide (0 < j) = false := by simp; omega
      have J0 := Lib.hid h0
      clear h0
      go_wp2_with fail
      go_ret
      exact ⟨by rw [Z.out, J0.out]; rfl, rfl⟩
    · obtain ⟨k, hk⟩ : ∃ k, j = k + 1 := ⟨j - 1, by omega⟩
      have hD : decide ((0 : Int) < (j : Int)) = true := by simp; omega
      have hD2 : decide (0 < j) = true := by simp; omega
      have e1 : (j : Int) - 1 = (k : Int) := by omega
      have kb : (k : Int) ≤ 100000 := by have := HB.out; have := J.out; omega
      have kc : k ≤ c := by have := HC.out; have := J.out; omega
      have KE := Lib.hid hk
      obtain ⟨b, o, hA, x, hx, hcell⟩ := HR.out.get k (by have := HN.out; have := J.out; omega)
      subst hA
      have X := hx
      have TJ := Lib.hid (show trimN l j = if x = 0 then trimN l k else k + 1 by rw [KE.out, X.out]; rfl)
      clear hx h0 hk
      by_cases hx0 : x = 0
      · have hE : ((x.toNat : Int) == 0) = true := by rw [u8_eq0]; simp [hx0]
        have TK := Lib.hid (show trimN l n = trimN l k by rw [T.out, TJ.out, if_pos hx0])
        clear hx0
        go_wp2_with (first
          | (refine wpList_valg rfl (run_iaddr_sl 22 (.tmp 9) (.tmp 12) rfl 5 Tryd.underlying22 I0.out I1.out b o j c k (by have := KE.out; omega) .i64 _ rfl rfl (by first | rfl | exact congrArg _ e1) _) ?_)
          | (refine wpList_val rfl (run_cut_to 22 (.tmp 18) (.tmp 21) rfl 5 Tryd.underlying22 I0.out I1.out (some ⟨b, o, none⟩) j c k rfl rfl (by have := KE.out; have := J.out; have := HC.out; omega) _) ?_))
        go_roundw
        case rel => exact ⟨k, by have := J.out; have := KE.out; omega, rfl, TK.out, by first | rfl | trivial⟩
        case measure => have := KE.out; simp [lenOf]; omega
      · have hE : ((x.toNat : Int) == 0) = false := by rw [u8_eq0]; simp [hx0]
        have TK := Lib.hid (show trimN l n = j by rw [T.out, TJ.out, if_neg hx0, KE.out])
        clear hx0
        go_wp2_with (refine wpList_valg rfl (run_iaddr_sl 22 (.tmp 9) (.tmp 12) rfl 5 Tryd.underlying22 I0.out I1.out b o j c k (by have := KE.out; omega) .i64 _ rfl rfl (by first | rfl | exact congrArg _ e1) _) ?_)
        go_ret
        exact ⟨by rw [TK.out]; rfl, rfl⟩
/-- What is left is nothing, just where the first n bytes are zeros. -/
def TrimP (l : List UInt8) (n : Nat) (w : World) (e : Ending) (w' : World) : Prop := ∃ A' m c', e = .returned (.slice A' m c') ∧ (m = 0 ↔ ∀ j, j < n → l.getD j 0 = 0) ∧ w' = w
def TrimQ (l : List UInt8) (n : Nat) (w : World) (e : Ending) (w' : World) : Prop := ∃ A' m c', e = .returned (.slice A' m c') ∧ (m = 0 ↔ ∀ j, j < n → l.getD j 0 = 0) ∧ Below w.heap.size w w'
set_option maxRecDepth 100000 in
set_option maxHeartbeats 1000000 in
theorem trimLeft_any (w : World) (A : Option Addr) (n c : Nat) (l : List UInt8) (hn : l.length = n) (hc : n ≤ c) (hR : RdB w A l) (hb : n ≤ 100000) :
    Calls Tryd.prog 29 #[.slice A n c, .int .u8 0] w (TrimP l n w) := by
  obtain ⟨i0, hi, hz0, hz1, hz2⟩ := info_parts (show (Tryd.prog.info? 5).map (fun i => (i.zero, i.size, i.bytes)) = some (some (.int .u8 0), 1, 1) by kernel_rfl)
  have I0 := Lib.hid hi
  have I1 := Lib.hid hz1
  have HN := Lib.hid hn
  have HC := Lib.hid hc
  have HR := Lib.hid hR
  have HB := Lib.hid hb
  clear hi hz0 hz1 hz2 hn hc hR hb
  go_enter Tryd.func29, Tryd.ntmps29
  go_wp2_with fail
  go_loopw [0] (fun v wr => ∃ (p r : Nat) (A' : Option Addr) (c' : Nat), p + r = n ∧ v = .slice A' r c' ∧ r ≤ c' ∧ RdB w A' (l.drop p) ∧ (∀ j, j < p → l.getD j 0 = 0) ∧ wr = w) (fun v _ => lenOf v)
  case atStart => exact ⟨0, n, A, c, by omega, rfl, HC.out, by rw [List.drop_zero]; exact HR.out, fun j hj => absurd hj (by omega), rfl⟩
  case round =>
    obtain ⟨p, r, A1, c1, hpr, rfl, hrc, hr1, hz, hw⟩ := hrel
    rw [hw]
    have PR := Lib.hid hpr
    have RC := Lib.hid hrc
    have R1 := Lib.hid hr1
    have Z := Lib.hid hz
    have rb : (r : Int) ≤ 100000 := by have := HB.out; omega
    clear hpr hrc hr1 hz hw wr
    rcases Nat.eq_zero_or_pos r with h0 | h0
    · have hD : decide ((0 : Int) < (r : Int)) = false := by simp; omega
      have hD2 : decide (0 < r) = false := by simp; omega
      have hE : ((r : Int) == 0) = true := by simp [h0]
      have G := Lib.hid (show ∀ j, j < n → l.getD j 0 = 0 from fun j hj => Z.out j (by have := PR.out; omega))
      clear h0
      go_wp2_with fail
      go_ret
      exact ⟨none, 0, 0, rfl, ⟨fun _ => G.out, fun _ => rfl⟩, rfl⟩
    · have hD : decide ((0 : Int) < (r : Int)) = true := by simp; omega
      have hD2 : decide (0 < r) = true := by simp; omega
      have hE : ((r : Int) == 0) = false := by simp; omega
      have P0 := Lib.hid h0
      obtain ⟨b, o, hA, x, hx, hcell⟩ := R1.out.get 0 (by rw [List.length_drop, HN.out]; have := PR.out; omega)
      subst hA
      rw [Nat.add_zero] at hcell
      have X := Lib.hid (show x = l.getD p 0 by rw [hx.out]; simp [List.getD_eq_getElem?_getD, List.getElem?_drop])
      clear hx h0
      by_cases hx0 : x = 0
      · have hF : ((x.toNat : Int) == 0) = true := by rw [u8_eq0]; simp [hx0]
        have Z2 := Lib.hid (show ∀ j, j < p + 1 → l.getD j 0 = 0 by
          intro j hj
          rcases Nat.lt_or_ge j p with h | h
          · exact Z.out j h
          · rw [show j = p by omega, ← X.out, hx0])
        have R2 := Lib.hid (show RdB w (if c1 = 1 then some ⟨b, o, none⟩ else some ⟨b, o + 1, none⟩) (l.drop (p + 1)) by
          by_cases h1 : c1 = 1
          · rw [List.drop_of_length_le (by rw [HN.out]; have := PR.out; have := RC.out; omega)]
            exact RdB.nil _ _
          · rw [if_neg h1]
            intro j hj
            rw [List.length_drop] at hj
            obtain ⟨b', o', e, hc⟩ := R1.out (j + 1) (by rw [List.length_drop]; omega)
            cases e
            refine ⟨b, o + 1, rfl, ?_⟩
            rw [show o + 1 + j = o + (j + 1) by omega, hc]
            simp [List.getD_eq_getElem?_getD, List.getElem?_drop]
            rw [show p + (j + 1) = p + 1 + j by omega])
        have rc : 1 ≤ r := by have := P0.out; omega
        clear hx0
        go_wp2_with (refine wpList_valg rfl (run_iaddr_sl 22 (.tmp 9) (.const (.int .i64 0)) rfl 5 Tryd.underlying22 I0.out I1.out b o r c1 0 P0.out .i64 _ rfl rfl rfl _) ?_)
        go_roundw
        case rel => exact ⟨p + 1, r - 1, _, c1 - 1, by have := PR.out; omega, rfl, by have := RC.out; omega, R2.out, Z2.out, by first | rfl | trivial⟩
        case measure => simp [lenOf]; omega
      · have hF : ((x.toNat : Int) == 0) = false := by rw [u8_eq0]; simp [hx0]
        have F := Lib.hid (show r = 0 ↔ ∀ j, j < n → l.getD j 0 = 0 from ⟨fun h => absurd h (by have := P0.out; omega), fun h => absurd (h p (by have := PR.out; have := P0.out; omega)) (by rw [← X.out]; exact hx0)⟩)
        clear hx0
        go_wp2_with (refine wpList_valg rfl (run_iaddr_sl 22 (.tmp 9) (.const (.int .i64 0)) rfl 5 Tryd.underlying22 I0.out I1.out b o r c1 0 P0.out .i64 _ rfl rfl rfl _) ?_)
        go_ret
        exact ⟨_, r, c1, rfl, F.out, rfl⟩
set_option maxRecDepth 100000 in
set_option maxHeartbeats 1000000 in
/-- Trim of zeros: nothing is left of zeros alone. -/
theorem trim_any (w : World) (A : Option Addr) (n c : Nat) (l : List UInt8) (hn : l.length = n) (hc : n ≤ c) (hR : RdB w A l) (hb : n ≤ 100000) :
    Calls Tryd.prog 20 #[.slice A n c, .string ⟨#[0]⟩] w (TrimQ l n w) := by
  have HN := Lib.hid hn
  have HC := Lib.hid hc
  have HR := Lib.hid hR
  have HB := Lib.hid hb
  have nb : (n : Int) ≤ 100000 := by omega
  clear hn hc hR hb
  by_cases h0 : n = 0
  · have hE : ((n : Int) == 0) = true := by simp [h0]
    have G := Lib.hid (show ∀ j, j < n → l.getD j 0 = 0 from fun j hj => absurd hj (by omega))
    clear h0
    go_enter Tryd.func20, Tryd.ntmps20
    go_wp2_with fail
    go_ret
    exact ⟨none, 0, 0, rfl, ⟨fun _ => G.out, fun _ => rfl⟩, Below.refl _ _⟩
  · have hE : ((n : Int) == 0) = false := by simp; omega
    have N0 := Lib.hid h0
    clear h0
    obtain ⟨m, hm⟩ : ∃ m, m = trimN l n := ⟨_, rfl⟩
    have M := Lib.hid hm
    have MN := Lib.hid (show m ≤ n by rw [hm]; exact trimN_le _ _)
    clear hm
    go_enter Tryd.func20, Tryd.ntmps20
    go_upto_region 6 with fail
    have B := Lib.hid (show Below w.heap.size w w.drew from (Below.refl _ _).drew)
    refine wp_region_road (fun W => Below w.heap.size w W) [(true, 0), (true, 1), (true, 2), (true, 4), (true, 5), (false, 3), (false, 6), (true, 7)] (by kernel_rfl) (by kernel_rfl) (fun _ _ d _ _ h => by cases d <;> exact h) ?_
    simp only [List.filterMap_cons, List.filterMap_nil, List.getElem?_toArray, List.getElem?_cons_zero, List.getElem?_cons_succ, Option.map_some]
    refine planG_q (v := ?_) (by rfl) (B.out) ?_ ?_
    rotate_left
    · intro W hW
      go_simp
      with_reducible rfl
    simp only [Act.put, List.setIfInBounds_toArray, List.set_cons_zero, List.set_cons_succ]
    refine planG_q (v := ?_) (by rfl) (B.out) ?_ ?_
    rotate_left
    · intro W hW
      go_simp
      with_reducible rfl
    simp only [Act.put, List.setIfInBounds_toArray, List.set_cons_zero, List.set_cons_succ]
    refine planG_q (v := ?_) (by rfl) (B.out) ?_ ?_
    rotate_left
    · intro W hW
      go_simp
      with_reducible rfl
    simp only [Act.put, List.setIfInBounds_toArray, List.set_cons_zero, List.set_cons_succ]
    refine planG_q (v := ?_) (by rfl) (B.out) ?_ ?_
    rotate_left
    · intro W hW
      go_simp
      with_reducible rfl
    simp only [Act.put, List.setIfInBounds_toArray, List.set_cons_zero, List.set_cons_succ]
    refine planG_q (v := ?_) (by rfl) (B.out) ?_ ?_
    rotate_left
    · intro W hW
      go_simp
      with_reducible rfl
    simp only [Act.put, List.setIfInBounds_toArray, List.set_cons_zero, List.set_cons_succ]
    refine planG_t (by rfl) (fun K hK => ?_)
    go_simp
    refine (trimRight_any _ A n c l HN.out HC.out (HR.out.keep B.out) HB.out).mono ?_
    rw [← M.out]
    rintro e wd ⟨rfl, hw⟩
    rw [hw]
    clear hw wd
    refine hK.out _ _ (B.out) ?_
    clear hK K
    refine planG_t (by rfl) (fun K hK => ?_)
    go_simp
    refine (trimLeft_any _ A m c (l.take m) (by rw [List.length_take, HN.out]; have := MN.out; omega) (by have := MN.out; have := HC.out; omega) ((HR.out.keep B.out).take m) (by have := MN.out; have := HB.out; omega)).mono ?_
    rintro e wd ⟨A', m', c', rfl, hm', hw⟩
    rw [hw]
    have F := Lib.hid (show m' = 0 ↔ ∀ j, j < n → l.getD j 0 = 0 by
      have e1 : ∀ j, j < m → (l.take m).getD j 0 = l.getD j 0 := by intro j hj; simp [List.getD_eq_getElem?_getD, List.getElem?_take, hj]
      rw [hm', ← trimN_zero l n, ← M.out]
      constructor
      · intro h
        rcases Nat.eq_zero_or_pos m with h2 | h2
        · exact h2
        · obtain ⟨k, hk⟩ : ∃ k, m = k + 1 := ⟨m - 1, by omega⟩
          exact absurd (by rw [← e1 k (by omega)]; exact h k (by omega)) (trimN_last l n k (by rw [← M.out]; exact hk))
      · intro h j hj
        omega)
    clear hw wd hm'
    refine hK.out _ _ (B.out) ?_
    clear hK K
    refine planG_q (v := ?_) (by rfl) (B.out) ?_ ?_
    rotate_left
    · intro W hW
      go_simp
      with_reducible rfl
    simp only [Act.put, List.setIfInBounds_toArray, List.set_cons_zero, List.set_cons_succ]
    refine planG_nil ?_
    go_wp2_with fail
    go_ret
    exact ⟨A', m', c', rfl, F.out, B.out⟩
end Go.Proofs.YtihllbhmnkckaaaDoor
