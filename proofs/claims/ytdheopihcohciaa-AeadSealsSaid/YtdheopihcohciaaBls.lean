/- Blocks of bytes of the call's own, the newest first. No condition but those each theorem states. -/
import Derived.Test.YtdheopihcohciaaOps
namespace Go.Proofs.Ytdheopihcohciaa
set_option linter.unusedVariables false
set_option linter.unusedSimpArgs false
open Go.RowKit

structure Bls (w : World) (bs : List (TypeId × Nat × List UInt8)) (W : World) : Prop where
  has : ∀ x ∈ bs, W.heap[x.2.1]? = some (.cells (W8 x.2.2) x.1 (0, 0))
  hg : ∀ x ∈ bs, w.heap.size ≤ x.2.1
  srt : bs.Pairwise (fun a b => b.2.1 < a.2.1)
  bel : Below w.heap.size w W
theorem Bls.start (w : World) : Bls w [] w := ⟨by simp, by simp, .nil, Below.refl _ _⟩
theorem Bls.blk {w W : World} {bs : List (TypeId × Nat × List UInt8)} (h : Bls w bs W) {t : TypeId} {g : Nat} {l : List UInt8} (hm : (t, g, l) ∈ bs) : W.heap[g]? = some (.cells (W8 l) t (0, 0)) := h.has _ hm
theorem Bls.cell {w W : World} {bs : List (TypeId × Nat × List UInt8)} (h : Bls w bs W) {t : TypeId} {g : Nat} {l : List UInt8} (hm : (t, g, l) ∈ bs) (i : Nat) (hi : i < l.length) : W.cell? ⟨g, i, none⟩ = some (.int .u8 ((l.getD i 0).toNat : Int)) := row_cell (h.blk hm) i (W8_get l i hi)
theorem Bls.free {w W : World} {bs : List (TypeId × Nat × List UInt8)} (h : Bls w bs W) {t : TypeId} {g : Nat} {l : List UInt8} (hm : (t, g, l) ∈ bs) (i : Nat) : W.frozen? ⟨g, i, none⟩ = false := row_free (h.blk hm) i
theorem Bls.rd {w W : World} {bs : List (TypeId × Nat × List UInt8)} (h : Bls w bs W) {t : TypeId} {g : Nat} {l : List UInt8} (hm : (t, g, l) ∈ bs) : RdB W (some ⟨g, 0, none⟩) l := RdB.row (h.blk hm)
theorem Bls.new {w W : World} {bs : List (TypeId × Nat × List UInt8)} (h : Bls w bs W) (t : TypeId) (l : List UInt8) {g : Nat} (hG : g = W.heap.size) : Bls w ((t, g, l) :: bs) (W.alloc (.cells (W8 l) t)) := by
  subst hG
  refine ⟨fun x hx => ?_, fun x hx => ?_, ?_, h.bel.alloc h.bel.size _⟩
  · rcases List.mem_cons.1 hx with rfl | hx
    · exact ha_new _ _ _ rfl
    · exact ha_old _ _ _ (row_lt (h.has x hx)) (h.has x hx)
  · rcases List.mem_cons.1 hx with rfl | hx
    · exact h.bel.size
    · exact h.hg x hx
  · exact List.pairwise_cons.2 ⟨fun x hx => row_lt (h.has x hx), h.srt⟩
theorem Bls.keep {w W W' : World} {bs : List (TypeId × Nat × List UInt8)} (h : Bls w bs W) (hb : Below W.heap.size W W') : Bls w bs W' :=
  ⟨fun x hx => below_block hb (row_lt (h.has x hx)) (h.has x hx), h.hg, h.srt, h.bel.trans (hb.mono h.bel.size)⟩
theorem Bls.drew {w W : World} {bs : List (TypeId × Nat × List UInt8)} (h : Bls w bs W) : Bls w bs W.drew := h.keep (Below.refl _ _).drew
/-- The newest one is written whole. -/
theorem Bls.whole {w W W' : World} {bs : List (TypeId × Nat × List UInt8)} {t : TypeId} {g : Nat} {l l' : List UInt8} (h : Bls w ((t, g, l) :: bs) W) (hb : W'.heap[g]? = some (.cells (W8 l') t (0, 0))) (hgr : W.grownBy W' (some g)) : Bls w ((t, g, l') :: bs) W' := by
  have hg0 := h.hg _ (List.mem_cons_self ..)
  refine ⟨fun x hx => ?_, fun x hx => ?_, ?_, h.bel.trans (grown_below hgr h.bel.size (by rintro k ⟨⟩; exact hg0))⟩
  · rcases List.mem_cons.1 hx with rfl | hx
    · exact hb
    · refine grown_block hgr (fun e => ?_) (h.has x (List.mem_cons_of_mem _ hx))
      have := (List.pairwise_cons.1 h.srt).1 x hx
      injection e with e
      simp at this
      omega
  · rcases List.mem_cons.1 hx with rfl | hx
    · exact hg0
    · exact h.hg x (List.mem_cons_of_mem _ hx)
  · exact List.pairwise_cons.2 ⟨fun x hx => (List.pairwise_cons.1 h.srt).1 x hx, (List.pairwise_cons.1 h.srt).2⟩
/-- A byte of the newest one is written. -/
theorem Bls.set {w W : World} {bs : List (TypeId × Nat × List UInt8)} {t : TypeId} {g : Nat} {l : List UInt8} (h : Bls w ((t, g, l) :: bs) W) (i : Nat) (x : UInt8) : Bls w ((t, g, l.set i x) :: bs) (W.setCell ⟨g, i, none⟩ (.int .u8 (x.toNat : Int))) :=
  h.whole (by rw [heap_setCell_same _ _ _ _ _ _ (h.blk (List.mem_cons_self ..)), W8_set]) (grown_set (World.grownBy.refl _ _) _ _)
theorem Bls.lt {w W : World} {bs : List (TypeId × Nat × List UInt8)} (h : Bls w bs W) {t : TypeId} {g : Nat} {l : List UInt8} (hm : (t, g, l) ∈ bs) : g < W.heap.size := row_lt (h.blk hm)
/-- The first cells of a row. -/
theorem range_row {W : World} {g : Nat} {t : TypeId} {l : List UInt8} (h : W.heap[g]? = some (.cells (W8 l) t (0, 0))) (off n : Nat) (hn : off + n ≤ l.length) : W.rangeAt g off (B8 ((l.drop off).take n)) := by
  intro j v hj
  have hjl : j < n := by
    have := (List.getElem?_eq_some_iff.1 hj).1
    rw [B8_length, List.length_take] at this
    omega
  rw [B8_get _ _ (by simp; omega)] at hj
  cases hj
  refine (row_cell h (off + j) (W8_get l (off + j) (by omega))).trans ?_
  rw [List.getD_eq_getElem?_getD, List.getD_eq_getElem?_getD, List.getElem?_take, if_pos hjl, List.getElem?_drop]
end Go.Proofs.Ytdheopihcohciaa
