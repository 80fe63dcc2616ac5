/- A clamped key, and the tag: walked. No condition but those each theorem states. -/
import Derived.Test.YtdheopihcohciaaPolyT
import Derived.Test.YtdheopihcohciaaMake
namespace Go.Proofs.Ytdheopihcohciaa
set_option linter.unusedVariables false
set_option linter.unusedSimpArgs false
open Go.RowKit
attribute [local go_sem ↓] Go.wp_at_zero Go.wp_at_succ

def Z16 : List UInt8 := [0, 0, 0, 0, 0, 0, 0, 0, 0, 0, 0, 0, 0, 0, 0, 0]
theorem zero16 : W8 Z16 = #[.int .u8 0, .int .u8 0, .int .u8 0, .int .u8 0, .int .u8 0, .int .u8 0, .int .u8 0, .int .u8 0, .int .u8 0, .int .u8 0, .int .u8 0, .int .u8 0, .int .u8 0, .int .u8 0, .int .u8 0, .int .u8 0] := rfl
theorem u8_and' (a b : UInt8) : bits .and .u8 (a.toNat : Int) (b.toNat : Int) = ((a &&& b).toNat : Int) := by
  rw [u8_and_nat _ _ a.toNat_lt b.toNat_lt, UInt8.toNat_and]
theorem and_ex (a b : UInt8) : ∃ y : UInt8, Hid (y = a &&& b) ∧ bits .and .u8 (a.toNat : Int) (b.toNat : Int) = (y.toNat : Int) := ⟨_, rfl, u8_and' a b⟩
/-- A row of bytes of the call's own. -/
structure BW (w : World) (t : TypeId) (g : Nat) (l : List UInt8) (W : World) : Prop where
  b : W.heap[g]? = some (.cells (W8 l) t (0, 0))
  hg : w.heap.size ≤ g
  bel : Below w.heap.size w W
theorem BW.set {w W : World} {t : TypeId} {g : Nat} {l : List UInt8} (h : BW w t g l W) (i : Nat) (x : UInt8) : BW w t g (l.set i x) (W.setCell ⟨g, i, none⟩ (.int .u8 (x.toNat : Int))) where
  b := by rw [heap_setCell_same _ _ _ _ _ _ h.b, W8_set]
  hg := h.hg
  bel := h.bel.trans (grown_below (grown_set (World.grownBy.refl W (some g)) _ _) h.bel.size (by rintro k ⟨⟩; exact h.hg))
theorem BW.away {w W W' : World} {t : TypeId} {g k : Nat} {m : List UInt8} (h : BW w t k m W) (hne : k ≠ g) (hg : w.heap.size ≤ g) (hgr : W.grownBy W' (some g)) : BW w t k m W' where
  b := grown_block hgr (by simp; exact hne) h.b
  hg := h.hg
  bel := h.bel.trans (grown_below hgr h.bel.size (by rintro k ⟨⟩; exact hg))
theorem BW.keep {w W W' : World} {t : TypeId} {g : Nat} {l : List UInt8} (h : BW w t g l W) (hb : Below W.heap.size W W') : BW w t g l W' := ⟨below_block hb (row_lt h.b) h.b, h.hg, h.bel.trans (hb.mono h.bel.size)⟩
theorem BW.ret {w W W' : World} {t : TypeId} {g : Nat} {m : List UInt8} (h : BW w t g m W) (hg : W.grownBy W' (some g)) : Below w.heap.size w W' :=
  h.bel.trans (grown_below hg h.bel.size (by rintro k ⟨⟩; exact h.hg))
theorem grown1 (W : World) (g i : Nat) (v : Value) : W.grownBy (W.setCell ⟨g, i, none⟩ v) (some g) := grown_set (World.grownBy.refl _ _) _ _
theorem info_16 {l : List UInt8} (h : l.length = 16) : (Try.prog.info? 29).map (·.size) = some (W8 l).size := by rw [W8_size, h]; kernel_rfl
set_option maxRecDepth 100000 in
set_option maxHeartbeats 2000000 in
theorem clamp_any (b : List UInt8) (hb : b.length = 16) (w : World) :
    Calls Try.prog 29 #[.agg (W8 b)] w fun e w' => e = .returned (.agg (W8 (clampL b))) ∧ Below w.heap.size w w' := by
  have HB := Lib.hid hb
  have Z := Lib.hid zero16
  clear hb
  go_enter Try.func29, Try.ntmps29
  go_wp2_with fail
  rw [← Z.out]
  obtain ⟨w1, hw1⟩ : ∃ w1, w1 = (w.alloc (.cells (W8 b) 29)).alloc (.cells (W8 Z16) 29) := ⟨_, rfl⟩
  have S1 := Lib.hid (show BW w 29 w.heap.size (clampK b 0) w1 ∧ BW w 29 (w.heap.size + 1) Z16 w1 by
    have hb : Below w.heap.size w w1 := by rw [hw1]; exact ((Below.refl _ _).alloc (Nat.le_refl _) _).alloc (by simp) _
    rw [hw1] at hb ⊢
    rw [show clampK b 0 = b from rfl]
    exact ⟨⟨ha_old _ _ _ (by simp) (ha_new _ _ _ rfl), by omega, hb⟩, ⟨ha_new _ _ _ (by simp), by omega, hb⟩⟩)
  rw [← hw1]
  clear hw1
  go_loopw [3] (fun u wr => ∃ t : Nat, t ≤ 4 ∧ u = .int .i64 (3 + 4 * (t : Int)) ∧ BW w 29 w.heap.size (clampK b t) wr ∧ BW w 29 (w.heap.size + 1) Z16 wr) (fun u _ => 20 - (intOf u).toNat)
  case atStart => exact ⟨0, by omega, rfl, S1.out⟩
  case round =>
    obtain ⟨t, ht, rfl, hs⟩ := hrel
    have T := Lib.hid ht
    have S2 := Lib.hid hs
    clear ht hs S1
    obtain ⟨q, hq⟩ : ∃ q, q = clampK b t := ⟨_, rfl⟩
    rw [← hq] at S2
    have QL := Lib.hid (show q.length = 16 by rw [hq, clampK_length, HB.out])
    have Q := Lib.hid hq
    clear hq
    have t4 : (t : Int) ≤ 4 := by have := T.out; omega
    have b0 : (0 : Int) ≤ 3 + 4 * (t : Int) := by omega
    by_cases hlt : t < 4
    · have hD : decide (3 + 4 * (t : Int) < 16) = true := by simp; omega
      obtain ⟨x, hx⟩ : ∃ x, x = q.getD (3 + 4 * t) 0 := ⟨_, rfl⟩
      have a1 := row_cell S2.out.1.b (3 + 4 * t) (W8_get _ (3 + 4 * t) (by rw [QL.out]; omega))
      have f1 := row_free S2.out.1.b (3 + 4 * t)
      rw [← hx] at a1
      have X := Lib.hid hx
      obtain ⟨y, hy, e1⟩ := and_ex x 15
      rw [show (((15 : UInt8).toNat : Nat) : Int) = 15 from rfl] at e1
      have e2 : (3 + 4 * (t : Int)).toNat = 3 + 4 * t := by omega
      have b1 : 3 + 4 * (t : Int) < 16 := by omega
      clear hx
      go_upto_region 5 with fail
      clear a1 f1 e1
      obtain ⟨p, hp⟩ : ∃ p, p = q.set (3 + 4 * t) y := ⟨_, rfl⟩
      obtain ⟨w2, hw2⟩ : ∃ w2, w2 = wr.setCell ⟨w.heap.size, 3 + 4 * t, none⟩ (.int .u8 (y.toNat : Int)) := ⟨_, rfl⟩
      have S3 := Lib.hid (show BW w 29 w.heap.size p w2 ∧ BW w 29 (w.heap.size + 1) Z16 w2 by rw [hw2, hp]; exact ⟨S2.out.1.set _ _, S2.out.2.away (by omega) (Nat.le_refl _) (grown1 _ _ _ _)⟩)
      rw [← hw2]
      have PL := Lib.hid (show p.length = 16 by rw [hp, List.length_set, QL.out])
      have PP := Lib.hid hp
      clear hw2 hp
      by_cases h5 : 3 + 4 * t + 1 < 16
      · have hE : decide (3 + 4 * (t : Int) + 1 < 16) = true := by simp; omega
        obtain ⟨z, hz⟩ : ∃ z, z = p.getD (3 + 4 * t + 1) 0 := ⟨_, rfl⟩
        have a2 := row_cell S3.out.1.b (3 + 4 * t + 1) (W8_get _ (3 + 4 * t + 1) (by rw [PL.out]; exact h5))
        have f2 := row_free S3.out.1.b (3 + 4 * t + 1)
        rw [← hz] at a2
        have ZZ := Lib.hid hz
        obtain ⟨v, hv, e3⟩ := and_ex z 252
        rw [show (((252 : UInt8).toNat : Nat) : Int) = 252 from rfl] at e3
        have e4 : (3 + 4 * (t : Int) + 1).toNat = 3 + 4 * t + 1 := by omega
        have b2 : 3 + 4 * (t : Int) + 1 < 16 := by omega
        have b3 : (0 : Int) ≤ 3 + 4 * (t : Int) + 1 := by omega
        clear hz
        go_wp2_with fail
        go_roundw
        case rel =>
          refine ⟨t + 1, by omega, by go_num, ?_⟩
          rw [clampK, ← Q.out, ← X.out, ← hy.out, ← PP.out]
          rw [if_pos h5, ← ZZ.out, ← hv.out]
          exact ⟨S3.out.1.set _ _, S3.out.2.away (by omega) (Nat.le_refl _) (grown1 _ _ _ _)⟩
        case measure => simp [intOf]; omega
      · have hE : decide (3 + 4 * (t : Int) + 1 < 16) = false := by simp; omega
        go_wp2_with fail
        go_roundw
        case rel =>
          refine ⟨t + 1, by omega, by go_num, ?_⟩
          rw [clampK, ← Q.out, ← X.out, ← hy.out, ← PP.out]
          rw [if_neg h5]
          exact S3.out
        case measure => simp [intOf]; omega
    · have ht : Hid (t = 4) := show t = 4 by have := T.out; omega
      have hD : decide (3 + 4 * (t : Int) < 16) = false := by simp; omega
      have QE := Lib.hid (show q = clampL b by rw [Q.out, ht.out]; rfl)
      go_wp2_with (first
        | (refine wpList_load_row rfl 29 (.tmp 1) rfl w.heap.size rfl 29 (W8 q) (0, 0) _ S2.out.1.b Try.underlying29 rfl (info_16 QL.out) ?_)
        | (refine wpList_store_whole rfl rfl 29 (.tmp 2) (.tmp 22) rfl (w.heap.size + 1) (W8 q) rfl rfl 29 _ S2.out.2.b (info_16 QL.out) (by rw [W8_size, W8_size, QL.out]; rfl) (W8_one _) ?_; intro w8 hz8 hg8 _))
      exact bodyPost_ret (results_cell_row rfl _ _ (w.heap.size + 1) 29 (W8 q) (0, 0) _ rfl hz8 Try.underlying29 rfl (info_16 QL.out)) rfl ⟨by rw [QE.out], S2.out.2.ret hg8⟩
end Go.Proofs.Ytdheopihcohciaa
