/- draws.Source: next, Used. No condition but those each theorem states. -/
import Derived.Test.YtphpcegifdiofaaDrawN
namespace Go.Proofs.Ytphpcegifdiofaa
set_option linter.unusedVariables false
set_option linter.unusedSimpArgs false
open Go.RowKit
attribute [local go_sem ↓] Go.wp_at_zero Go.wp_at_succ

theorem Src.u {g D : Nat} {F : List UInt8} {u : Nat} {b : Bool} {W : World} (h : Src g D F u b W) : W.cell? ⟨g, 34, none⟩ = some (.int .i64 (u : Int)) := by
  obtain ⟨A, c, seed, begun, bk, held, blk, h1, h2, h3, h4, hs, _⟩ := h.has
  exact row_cell h1 34 (SrcC_u hs)
theorem Src.free {g D : Nat} {F : List UInt8} {u : Nat} {b : Bool} {W : World} (h : Src g D F u b W) (i : Nat) : W.frozen? ⟨g, i, none⟩ = false := by
  obtain ⟨A, c, seed, begun, bk, held, blk, h1, _⟩ := h.has
  exact row_free h1 i
theorem Src.told {g D : Nat} {F : List UInt8} {u : Nat} {b : Bool} {W : World} (h : Src g D F u b W) (u2 : Nat) : Src g D F u2 b (W.setCell ⟨g, 34, none⟩ (.int .i64 (u2 : Int))) := by
  obtain ⟨A, c, seed, begun, bk, held, blk, h1, h2, h3, h4, hs, h5⟩ := h.has
  have hw : W.grownBy (W.setCell ⟨g, 34, none⟩ (.int .i64 (u2 : Int))) (some g) := grown_set (World.grownBy.refl _ _) _ _
  exact ⟨A, c, seed, begun, bk, held, blk, by rw [heap_setCell_same _ _ _ _ _ _ h1, SrcC_set_u hs], h2, h3.grown hw (fun k e a ea => by cases e; exact (h4 a ea).1), fun a e => ⟨(h4 a e).1, Nat.lt_of_lt_of_le (h4 a e).2.1 hw.size, (h4 a e).2.2⟩, hs, h5⟩
set_option maxRecDepth 100000 in
set_option maxHeartbeats 1000000 in
theorem used_any (g D : Nat) (F : List UInt8) (u : Nat) (b : Bool) (w : World) (h : Src g D F u b w) :
    Calls Try.prog 9 #[.pointer (some ⟨g, 0, none⟩)] w fun e w' => e = .returned (.int .i64 (u : Int)) ∧ w' = w := by
  have c34 := h.u
  clear h
  go_enter Try.func9, Try.ntmps9
  go_wp2_with fail
  go_ret
  exact ⟨rfl, rfl⟩
set_option maxRecDepth 100000 in
set_option maxHeartbeats 4000000 in
theorem next_any (g D : Nat) (F : List UInt8) (u : Nat) (w : World) (h : Src g D F u true w) (hb : F.length ≤ 100000) (hu : u ≤ 900000) :
    Calls Try.prog 15 #[.pointer (some ⟨g, 0, none⟩)] w fun e w' => e = .returned (.int .u8 ((byteS F u).toNat : Int)) ∧ Src g D F (u + 1) true w' ∧ w.grownBy w' (some g) := by
  have H := Lib.hid h
  obtain ⟨A, c, seed, begun, bk, held, blk, h1, h2, h3, _⟩ := h.has
  obtain ⟨n, hn⟩ : ∃ n, n = F.length := ⟨_, rfl⟩
  rw [← hn] at h1 h2 hb
  have NE := Lib.hid hn.symm
  have RA := Lib.hid h3
  have HB := Lib.hid hb
  have HU := Lib.hid hu
  have ub : (u : Int) ≤ 900000 := by omega
  have nb : (n : Int) ≤ 100000 := by omega
  have c0 := row_cell h1 0 SrcC_f
  have c34 := h.u
  obtain ⟨y, hy⟩ : ∃ y, y = byteS F u := ⟨_, rfl⟩
  rw [← hy]
  have Y := Lib.hid hy
  clear h h1 h2 h3 hn hb hu hy
  go_enter Try.func15, Try.ntmps15
  go_upto_if 16 with fail
  go_cut [4] (fun v wx => v = .int .u8 (y.toNat : Int) ∧ Src g D F u true wx ∧ w.grownBy wx (some g))
  case first =>
    by_cases hlt : u < n
    · have hD : decide ((u : Int) < (n : Int)) = true := by simp; omega
      have jb : (u : Int) < (n : Int) := by omega
      obtain ⟨b, o, rfl, hc⟩ := RA.out u (by rw [NE.out]; exact hlt)
      rw [show F.getD u 0 = y by rw [Y.out, byteS, if_pos (by rw [NE.out]; exact hlt)]] at hc
      go_wp2_with fail
      go_meet
      exact ⟨rfl, H.out, World.grownBy.refl _ _⟩
    · have hD : decide ((u : Int) < (n : Int)) = false := by simp; omega
      obtain ⟨i, hi⟩ : ∃ i, u = n + i := ⟨u - n, by omega⟩
      have e1 : (u : Int) - (n : Int) = (i : Int) := by omega
      have IE := Lib.hid hi
      clear hi
      go_wp2_with fail
      refine (behind_any g D F u w H.out (by rw [NE.out]; exact HB.out) (by have := HU.out; omega) i (by have := HU.out; have := IE.out; omega)).mono ?_
      rw [show (blockS F (i / 32)).getD (i % 32) 0 = y by rw [Y.out, byteS, if_neg (by rw [NE.out]; omega), blockS, NE.out, show u - n = i by have := IE.out; omega]]
      rintro e w1 ⟨rfl, hs, hg⟩
      have H1 := Lib.hid hs
      have G1 := Lib.hid hg
      clear hs hg
      go_wp2_with fail
      go_meet
      exact ⟨rfl, H1.out, G1.out⟩
  case rest =>
  obtain ⟨rfl, hs, hg⟩ := hcut
  have c34 := hs.u
  have f34 := hs.free 34
  have H1 := Lib.hid hs
  have G1 := Lib.hid hg
  clear hs hg
  go_wp2_with fail
  go_ret
  refine ⟨rfl, ?_, World.grownBy.trans G1.out (grown_set (World.grownBy.refl _ _) _ _)⟩
  exact H1.out.told (u + 1)
end Go.Proofs.Ytphpcegifdiofaa
