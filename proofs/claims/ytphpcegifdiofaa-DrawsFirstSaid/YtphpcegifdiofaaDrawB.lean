/- draws.Source: begin. No condition but those each theorem states. -/
import Derived.Test.YtphpcegifdiofaaDraw
namespace Go.Proofs.Ytphpcegifdiofaa
set_option linter.unusedVariables false
set_option linter.unusedSimpArgs false
open Go.RowKit
attribute [local go_sem ↓] Go.wp_at_zero Go.wp_at_succ

set_option maxRecDepth 100000 in
set_option maxHeartbeats 2000000 in
theorem sbegin_any (g D : Nat) (F : List UInt8) (u : Nat) (b : Bool) (w : World) (h : Src g D F u b w) (hb : F.length ≤ 100000) :
    Calls Try.prog 14 #[.pointer (some ⟨g, 0, none⟩)] w fun e w' => e = .returned (.tuple #[]) ∧ Src g D F u true w' ∧ w.grownBy w' (some g) := by
  obtain ⟨A, c, seed, begun, bk, held, blk, h1, h2, h3, h4, hs, hk, h5, h6, h7⟩ := h.has
  obtain ⟨n, hn⟩ : ∃ n, n = F.length := ⟨_, rfl⟩
  rw [← hn] at h1 h2 hb
  have NE := Lib.hid hn.symm
  have GA := Lib.hid h1
  have HC := Lib.hid h2
  have RA := Lib.hid h3
  have HA := Lib.hid h4
  have HS := Lib.hid hs
  have HK := Lib.hid hk
  have H5 := Lib.hid h5
  have H6 := Lib.hid h6
  have NB := Lib.hid hb
  have c33 := row_cell h1 33 (SrcC_begun hs)
  have c0 := row_cell h1 0 SrcC_f
  clear h h1 h2 h3 h4 hs hk h5 h6 h7 hn hb
  go_enter Try.func14, Try.ntmps14
  rcases begun with _ | _
  · go_wp2_with fail
    refine (shaSum_any w A n c F NE.out HC.out RA.out (by have := NB.out; omega)).mono ?_
    obtain ⟨L, hL⟩ : ∃ L, L = hashL F := ⟨_, rfl⟩
    rw [← hL]
    have LE := Lib.hid hL
    have LL := Lib.hid (show L.length = 32 by rw [hL, hashL_length])
    have Z := Lib.hid (show (Try.prog.info? 29).map (·.size) = some (W8 L).size by rw [W8_size, LL.out]; kernel_rfl)
    rintro e w1 ⟨rfl, hb1⟩
    have GA := Lib.hid (below_block hb1 (row_lt GA.out) GA.out)
    have B1 := Lib.hid hb1
    clear hL hb1 c33 c0
    go_wp2_with (refine storeM_list rfl 29 (.tmp 15) (.tmp 13) rfl g 1 (W8 L) rfl rfl _ _ GA.out Z.out (by rw [SrcC_size HS.out HK.out, W8_size, LL.out]; decide) (W8_one _) ?_; intro w2 hg2 hgr2 hs2; rw [SrcC_put_seed HS.out _ LL.out] at hg2; have c33 := row_cell hg2 33 (SrcC_begun LL.out); have f33 := row_free hg2 33; have G2 := Lib.hid hg2; have R2 := Lib.hid hgr2; clear hg2 hgr2 hs2)
    go_end0
    have hw : w.grownBy (w2.setCell ⟨g, 33, none⟩ (.bool true)) (some g) := World.grownBy.trans (grown_of_below B1.out |>.mono_none) (World.grownBy.trans R2.out (grown_set (World.grownBy.refl _ _) _ _))
    refine ⟨rfl, ⟨A, c, L, true, bk, held, blk, ?_, by rw [NE.out]; exact HC.out, RA.out.grown hw (fun k e a ea => by cases e; exact (HA.out a ea).1), fun a ea => ⟨(HA.out a ea).1, Nat.lt_of_lt_of_le (HA.out a ea).2.1 hw.size, (HA.out a ea).2.2⟩, LL.out, HK.out, fun _ => LE.out, fun e => ?_, fun _ => rfl⟩, hw⟩
    · rw [heap_setCell_same _ _ _ _ _ _ G2.out, SrcC_set_begun LL.out, NE.out]
    · have := (H6.out e).1
      cases this
  · go_wp2_with fail
    go_end0
    exact ⟨rfl, ⟨A, c, seed, true, bk, held, blk, by rw [NE.out]; exact GA.out, by rw [NE.out]; exact HC.out, RA.out, HA.out, HS.out, HK.out, fun _ => H5.out trivial, fun e => ⟨rfl, (H6.out e).2⟩, fun _ => rfl⟩, World.grownBy.refl _ _⟩
end Go.Proofs.Ytphpcegifdiofaa
