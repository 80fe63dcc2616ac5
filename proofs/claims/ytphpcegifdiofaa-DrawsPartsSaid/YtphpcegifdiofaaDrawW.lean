/- A source while a law is asked. No condition but those each theorem states. -/
import Derived.Test.YtphpcegifdiofaaDrawK
namespace Go.Proofs.Ytphpcegifdiofaa
set_option linter.unusedVariables false
set_option linter.unusedSimpArgs false
open Go.RowKit
attribute [local go_sem ↓] Go.wp_at_zero Go.wp_at_succ

structure SrcW (w : World) (g D : Nat) (F : List UInt8) (u : Nat) (W : World) : Prop where
  bel : Below w.heap.size w W
  hg : w.heap.size ≤ g
  hD : w.heap.size ≤ D
  ltD : D < W.heap.size
  src : Src g D F u true W
theorem SrcW.ltg {w : World} {g D : Nat} {F : List UInt8} {u : Nat} {W : World} (h : SrcW w g D F u W) : g < W.heap.size := h.src.lt
theorem SrcW.keep {w : World} {g D : Nat} {F : List UInt8} {u : Nat} {W W' : World} (h : SrcW w g D F u W) (hb : Below W.heap.size W W') : SrcW w g D F u W' :=
  ⟨h.bel.trans (hb.mono h.bel.size), h.hg, h.hD, Nat.lt_of_lt_of_le h.ltD hb.size, h.src.keep hb⟩
theorem SrcW.step {w : World} {g D : Nat} {F : List UInt8} {u u2 : Nat} {W W' : World} (h : SrcW w g D F u W) (hs : Src g D F u2 true W') (hg : W.grownBy W' (some g)) : SrcW w g D F u2 W' :=
  ⟨h.bel.trans (grown_below hg h.bel.size (by rintro k ⟨⟩; exact h.hg)), h.hg, h.hD, Nat.lt_of_lt_of_le h.ltD hg.size, hs⟩
theorem SrcW.far {w : World} {g D : Nat} {F : List UInt8} {u : Nat} {W W' : World} {k : Nat} (h : SrcW w g D F u W) (hg : W.grownBy W' (some k)) (h1 : k ≠ g) (h2 : k ≠ D) (hk : w.heap.size ≤ k) : SrcW w g D F u W' :=
  ⟨h.bel.trans (grown_below hg h.bel.size (by rintro q ⟨⟩; exact hk)), h.hg, h.hD, Nat.lt_of_lt_of_le h.ltD hg.size, h.src.far hg (by rintro q ⟨⟩; exact ⟨h1, h2⟩)⟩
theorem SrcW.own {w : World} {g D : Nat} {F : List UInt8} {u : Nat} {W W' : World} {r : Option Nat} (h : SrcW w g D F u W) (hg : W.grownBy W' r) (hr : ∀ k, r = some k → g < k ∧ D < k) : SrcW w g D F u W' :=
  ⟨h.bel.trans (grown_below hg h.bel.size (fun q e => by have := hr q e; have := h.hg; omega)), h.hg, h.hD, Nat.lt_of_lt_of_le h.ltD hg.size, h.src.far hg (fun q e => by have := hr q e; omega)⟩
theorem SrcW.made {w W W' : World} {g D : Nat} {F : List UInt8} (hb : Below w.heap.size w W) (h1 : W.heap.size ≤ g) (h2 : D < W'.heap.size) (h3 : W.heap.size ≤ D) (h4 : Src g D F 0 true W') (h5 : Below W.heap.size W W') : SrcW w g D F 0 W' :=
  ⟨hb.trans (h5.mono hb.size), Nat.le_trans hb.size h1, Nat.le_trans hb.size h3, h2, h4⟩
theorem takeN_nat (n : Nat) (h : n ≤ 65536) : takeN (n : Int) = n := by unfold takeN; omega
theorem tellS_add (F : List UInt8) (u a b : Nat) : tellS F u (a + b) = tellS F u a ++ tellS F (u + a) b := by
  induction b with
  | zero => simp [tellS]
  | succ b ih => rw [← Nat.add_assoc, tellS_succ, tellS_succ, ih, List.append_assoc, Nat.add_assoc]
theorem tellS_first (F : List UInt8) (k : Nat) (hk : k ≤ F.length) : tellS F 0 k = F.take k := by
  apply List.ext_getElem
  · rw [tellS_length, List.length_take]; omega
  · intro i h1 h2
    rw [tellS_length] at h1
    simp only [tellS, List.getElem_map, List.getElem_range, Nat.zero_add, List.getElem_take]
    rw [byteS, if_pos (by omega)]
    simp [List.getD_eq_getElem?_getD, show i < F.length by omega]
theorem tellS_all (F : List UInt8) : tellS F 0 F.length = F := by rw [tellS_first F _ (Nat.le_refl _), List.take_length]
theorem tellS_get (F : List UInt8) (u k i : Nat) (h : i < k) : (tellS F u k).getD i 0 = byteS F (u + i) := by simp [tellS, List.getD_eq_getElem?_getD, h]
set_option maxRecDepth 100000 in
set_option maxHeartbeats 1000000 in
theorem tellN_none (f : World) (m : Int) : Calls Try.prog 7 #[.pointer none, .int .i64 m] f fun e w' => e = .returned (.slice none 0 0) ∧ w' = f := by
  go_enter Try.func7, Try.ntmps7
  go_wp2_with fail
  go_ret
  exact ⟨rfl, rfl⟩
/-- So many bytes told, the source a law's. -/
theorem tellW_any (w : World) (g D : Nat) (F : List UInt8) (u : Nat) (W : World) (h : SrcW w g D F u W) (hb : F.length ≤ 100000) (n : Nat) (hn : n ≤ 65536) (hu : u + n ≤ 900000) :
    Calls Try.prog 7 #[.pointer (some ⟨g, 0, none⟩), .int .i64 (n : Int)] W fun e w' => (∃ v, e = .returned v ∧ OwnB w' W.heap.size v (tellS F u n)) ∧ SrcW w g D F (u + n) w' ∧ W.grownBy w' (some g) := by
  have := tell_any g D F u true W h.src h.ltD hb (n : Int) (by rw [takeN_nat n hn]; exact hu)
  rw [takeN_nat n hn] at this
  exact this.mono fun e w' ⟨v, he, ho, hs, hg⟩ => ⟨⟨v, he, ho⟩, h.step hs hg, hg⟩
end Go.Proofs.Ytphpcegifdiofaa
