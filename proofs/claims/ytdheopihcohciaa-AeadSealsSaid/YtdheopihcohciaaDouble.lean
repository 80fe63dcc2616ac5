/- A quarter round, and a double round, of the sixteen words that lie in memory. -/
import Derived.Test.YtdheopihcohciaaProg
import Derived.Test.YtdheopihcohciaaMix
namespace Go.Proofs.Ytdheopihcohciaa
set_option linter.unusedVariables false
set_option linter.unusedSimpArgs false
open Go.RowKit

def quarterL (l : List UInt32) (a b c d : Nat) : List UInt32 := mixL (mixL l a b c d 16 12) a b c d 8 7
theorem quarterL_length (l : List UInt32) (a b c d : Nat) : (quarterL l a b c d).length = l.length := by simp [quarterL, mixL_length]
def stepL (l : List UInt32) (y i : Nat) : List UInt32 := quarterL l i (4 + (i + y) % 4) (8 + (i + 2 * y) % 4) (12 + (i + 3 * y) % 4)
/-- The first k quarter rounds of a double round. -/
def dblK (l : List UInt32) : Nat → List UInt32
  | 0 => l
  | k + 1 => stepL (dblK l k) (k / 4) (k % 4)
theorem dblK_length (l : List UInt32) (k : Nat) : (dblK l k).length = l.length := by
  induction k with
  | zero => rfl
  | succ k ih => rw [dblK, stepL, quarterL_length, ih]

set_option maxRecDepth 100000 in
theorem quarter_nat (g : Nat) (l : List UInt32) (hl : l.length = 16) (w : World) (H : StOK w g l w) (a b c d : Nat) (ha : (a : Int) < 16) (hb : (b : Int) < 16) (hc : (c : Int) < 16) (hd : (d : Int) < 16) :
    Calls Try.prog 42 #[.pointer (some ⟨g, 0, none⟩), .int .i64 (a : Int), .int .i64 (b : Int), .int .i64 (c : Int), .int .i64 (d : Int)] w fun e w' =>
      e = .returned (.tuple #[]) ∧ StOK w g (quarterL l a b c d) w' := by
  have C1 := mix_any g l hl w H a b c d 16 12 ha hb hc hd (by decide) (by decide) (by decide) (by decide) (by decide) (by decide)
  have HL := Lib.hid hl
  have H0 := Lib.hid H
  have K1 := Lib.hid C1
  clear hl H C1
  go_enter Try.func42, Try.ntmps42
  go_wp2_with fail
  refine K1.out.mono ?_
  rintro e w1 ⟨rfl, H1'⟩
  have H1 := Lib.hid H1'
  clear H1'
  go_wp2_with fail
  refine (mix_any g (mixL l a b c d 16 12) (by rw [mixL_length]; exact HL.out) _ (StOK.refl H1.out.1) a b c d 8 7 ha hb hc hd (by decide) (by decide) (by decide) (by decide) (by decide) (by decide)).mono ?_
  rintro e w2 ⟨rfl, H2'⟩
  have H2 := Lib.hid H2'
  clear H2'
  go_wp2_with fail
  go_end0
  exact ⟨rfl, H1.out.trans H2.out⟩

theorem quarter_any (g : Nat) (l : List UInt32) (hl : l.length = 16) (w : World) (H : StOK w g l w) (a b c d : Int) (ha : 0 ≤ a ∧ a < 16) (hb : 0 ≤ b ∧ b < 16) (hc : 0 ≤ c ∧ c < 16) (hd : 0 ≤ d ∧ d < 16) :
    Calls Try.prog 42 #[.pointer (some ⟨g, 0, none⟩), .int .i64 a, .int .i64 b, .int .i64 c, .int .i64 d] w fun e w' =>
      e = .returned (.tuple #[]) ∧ StOK w g (quarterL l a.toNat b.toNat c.toNat d.toNat) w' := by
  obtain ⟨a, rfl⟩ := Int.eq_ofNat_of_zero_le ha.1
  obtain ⟨b, rfl⟩ := Int.eq_ofNat_of_zero_le hb.1
  obtain ⟨c, rfl⟩ := Int.eq_ofNat_of_zero_le hc.1
  obtain ⟨d, rfl⟩ := Int.eq_ofNat_of_zero_le hd.1
  exact quarter_nat g l hl w H a b c d ha.2 hb.2 hc.2 hd.2

theorem row_any (r i y : Int) (hr : 0 ≤ r ∧ r < 4) (hi : 0 ≤ i ∧ i < 4) (hy : 0 ≤ y ∧ y < 8) (w : World) :
    Calls Try.prog 43 #[.int .i64 r, .int .i64 i, .int .i64 y] w fun e w' => e = .returned (.int .i64 (4 * r + (i + y) % 4)) ∧ w = w' := by
  go_enter Try.func43, Try.ntmps43
  go_wp2
  go_ret
  exact ⟨rfl, rfl⟩

set_option maxRecDepth 100000 in
theorem double_any (g : Nat) (l : List UInt32) (hl : l.length = 16) (w : World) (H : StOK w g l w) :
    Calls Try.prog 28 #[.pointer (some ⟨g, 0, none⟩)] w fun e w' => e = .returned (.tuple #[]) ∧ StOK w g (dblK l 8) w' := by
  have HL := Lib.hid hl
  have H0 := Lib.hid H
  clear hl H
  go_enter Try.func28, Try.ntmps28
  go_wp2
  go_loopw [4] (fun i wr => ∃ y : Nat, y ≤ 2 ∧ i = .int .i64 (y : Int) ∧ StOK w g (dblK l (4 * y)) wr) (fun i _ => 2 - (intOf i).toNat)
  case atStart => exact ⟨0, by omega, rfl, H0.out⟩
  case round =>
    obtain ⟨y, hy, rfl, H1'⟩ := hrel
    have H1 := Lib.hid H1'
    clear H1' H0
    by_cases hlt : y < 2
    · obtain ⟨wo, rfl⟩ : ∃ wo : World, wo = wr := ⟨_, rfl⟩
      have hD : decide ((y : Int) < 2) = true := by simp; omega
      go_wp2_with fail
      go_loopw [7] (fun i wr => ∃ j : Nat, j ≤ 4 ∧ i = .int .i64 (j : Int) ∧ StOK w g (dblK l (4 * y + j)) wr) (fun i _ => 4 - (intOf i).toNat)
      case atStart => exact ⟨0, by omega, rfl, H1.out⟩
      case round =>
        obtain ⟨j, hj, rfl, H2'⟩ := hrel
        have H2 := Lib.hid H2'
        clear H2' H1
        by_cases hlt2 : j < 4
        · go_wp2_with fail
          refine (row_any _ _ _ (by omega) (by omega) (by omega) _).mono ?_
          rintro e w1 ⟨rfl, rfl⟩
          go_wp2_with fail
          refine (row_any _ _ _ (by omega) (by omega) (by omega) _).mono ?_
          rintro e w1 ⟨rfl, rfl⟩
          go_wp2_with fail
          refine (row_any _ _ _ (by omega) (by omega) (by omega) _).mono ?_
          rintro e w1 ⟨rfl, rfl⟩
          go_wp2_with fail
          refine (quarter_any g (dblK l (4 * y + j)) (by rw [dblK_length]; exact HL.out) _ (StOK.refl H2.out.1) _ _ _ _ (by omega) (by omega) (by omega) (by omega)).mono ?_
          rintro e w1 ⟨rfl, H3'⟩
          have H3 := Lib.hid (H2.out.trans H3')
          clear H3'
          go_wp2_with fail
          go_roundw
          case rel =>
            refine ⟨j + 1, by omega, by go_num, ?_⟩
            have := H3.out
            rw [show 4 * y + (j + 1) = 4 * y + j + 1 by omega, dblK, stepL, show (4 * y + j) / 4 = y by omega, show (4 * y + j) % 4 = j by omega]
            rw [show ((j : Int)).toNat = j by omega, show (4 + ((j : Int) + (y : Int)) % 4).toNat = 4 + (j + y) % 4 by omega, show (8 + ((j : Int) + 2 * (y : Int)) % 4).toNat = 8 + (j + 2 * y) % 4 by omega, show (12 + ((j : Int) + 3 * (y : Int)) % 4).toNat = 12 + (j + 3 * y) % 4 by omega] at this
            exact this
          case measure => simp [intOf]; omega
        · have hj4 : j = 4 := by omega
          subst hj4
          go_wp2_with fail
          go_roundw
          case rel => exact ⟨y + 1, by omega, by go_num, by have := H2.out; rw [show 4 * (y + 1) = 4 * y + 4 by omega]; exact this⟩
          case measure => simp [intOf]; omega
    · have hy2 : y = 2 := by omega
      subst hy2
      go_wp2_with fail
      go_end0
      exact ⟨rfl, H1.out⟩
end Go.Proofs.Ytdheopihcohciaa
