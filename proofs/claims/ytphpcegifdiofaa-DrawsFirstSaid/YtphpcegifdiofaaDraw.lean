/- draws.Source: its form in memory. No condition but those each theorem states. -/
import Derived.Test.YtphpcegifdiofaaConcat
import Derived.Test.YtphpcegifdiofaaShaOf
import Derived.Test.YtphpcegifdiofaaPut
namespace Go.Proofs.Ytphpcegifdiofaa
set_option linter.unusedVariables false
set_option linter.unusedSimpArgs false
open Go.RowKit
attribute [local go_sem ↓] Go.wp_at_zero Go.wp_at_succ

/-- Its cells: the first bytes, their sum, whether that is known, how many were told, whose block is at hand, whether one is, the block. -/
def SrcL (fv : Value) (seed : List UInt8) (begun : Bool) (u bk : Nat) (held : Bool) (blk : List UInt8) : List Value :=
  fv :: (B8 seed ++ (.bool begun :: .int .i64 (u : Int) :: .int .i64 (bk : Int) :: .bool held :: B8 blk))
def SrcC (fv : Value) (seed : List UInt8) (begun : Bool) (u bk : Nat) (held : Bool) (blk : List UInt8) : Array Value := (SrcL fv seed begun u bk held blk).toArray
section
variable {fv : Value} {seed blk : List UInt8} {begun held : Bool} {u bk : Nat}
theorem SrcC_size (hs : seed.length = 32) (hb : blk.length = 32) : (SrcC fv seed begun u bk held blk).size = 69 := by simp [SrcC, SrcL, B8_length, hs, hb]
theorem SrcC_f : (SrcC fv seed begun u bk held blk)[0]? = some fv := by simp [SrcC, SrcL]
theorem SrcL_tail (hs : seed.length = 32) (i : Nat) : (SrcL fv seed begun u bk held blk)[33 + i]? = (Value.bool begun :: .int .i64 (u : Int) :: .int .i64 (bk : Int) :: .bool held :: B8 blk)[i]? := by
  rw [SrcL, show 33 + i = (32 + i) + 1 by omega, List.getElem?_cons_succ, List.getElem?_append_right (by rw [B8_length, hs]; omega), B8_length, hs, show 32 + i - 32 = i by omega]
theorem SrcC_begun (hs : seed.length = 32) : (SrcC fv seed begun u bk held blk)[33]? = some (.bool begun) := by
  rw [SrcC, List.getElem?_toArray, SrcL_tail hs 0]; rfl
theorem SrcC_u (hs : seed.length = 32) : (SrcC fv seed begun u bk held blk)[34]? = some (.int .i64 (u : Int)) := by
  rw [SrcC, List.getElem?_toArray, SrcL_tail hs 1]; rfl
theorem SrcC_bk (hs : seed.length = 32) : (SrcC fv seed begun u bk held blk)[35]? = some (.int .i64 (bk : Int)) := by
  rw [SrcC, List.getElem?_toArray, SrcL_tail hs 2]; rfl
theorem SrcC_held (hs : seed.length = 32) : (SrcC fv seed begun u bk held blk)[36]? = some (.bool held) := by
  rw [SrcC, List.getElem?_toArray, SrcL_tail hs 3]; rfl
theorem SrcC_blk (hs : seed.length = 32) (i : Nat) (hi : i < blk.length) : (SrcC fv seed begun u bk held blk)[37 + i]? = some (.int .u8 ((blk.getD i 0).toNat : Int)) := by
  rw [SrcC, List.getElem?_toArray, show 37 + i = 33 + (i + 4) by omega, SrcL_tail hs]
  simp [B8, hi]
theorem SrcC_seed (i : Nat) (hi : i < seed.length) : (SrcC fv seed begun u bk held blk)[1 + i]? = some (.int .u8 ((seed.getD i 0).toNat : Int)) := by
  rw [SrcC, List.getElem?_toArray, SrcL, show 1 + i = i + 1 by omega, List.getElem?_cons_succ, List.getElem?_append_left (by rw [B8_length]; exact hi)]
  simp [B8, hi]
theorem SrcC_one (h : fv.oneCell' = true) : (SrcC fv seed begun u bk held blk).all (·.oneCell') = true := all_oneCell_toArray (by
  intro v hv
  simp only [SrcL, List.mem_cons, List.mem_append, B8, List.mem_map] at hv
  rcases hv with rfl | ⟨x, _, rfl⟩ | rfl | rfl | rfl | rfl | ⟨x, _, rfl⟩ <;> first | exact h | rfl)
theorem SrcC_set_begun (hs : seed.length = 32) (b2 : Bool) : (SrcC fv seed begun u bk held blk).setIfInBounds 33 (.bool b2) = SrcC fv seed b2 u bk held blk := by
  rw [SrcC, SrcC, List.setIfInBounds_toArray, SrcL, SrcL, List.set_cons_succ, List.set_append_right _ _ (by rw [B8_length, hs]; omega), B8_length, hs]
  rfl
theorem SrcC_set_u (hs : seed.length = 32) (u2 : Nat) : (SrcC fv seed begun u bk held blk).setIfInBounds 34 (.int .i64 (u2 : Int)) = SrcC fv seed begun u2 bk held blk := by
  rw [SrcC, SrcC, List.setIfInBounds_toArray, SrcL, SrcL, List.set_cons_succ, List.set_append_right _ _ (by rw [B8_length, hs]; omega), B8_length, hs]
  rfl
theorem SrcC_set_f (f2 : Value) : (SrcC fv seed begun u bk held blk).setIfInBounds 0 f2 = SrcC f2 seed begun u bk held blk := by simp [SrcC, SrcL]
theorem SrcC_put_seed (hs : seed.length = 32) (v : List UInt8) (hv : v.length = 32) :
    ((SrcC fv seed begun u bk held blk).toList.take 1 ++ ((W8 v).toList ++ (SrcC fv seed begun u bk held blk).toList.drop (1 + (W8 v).size))).toArray = SrcC fv v begun u bk held blk := by
  rw [W8_size, hv]
  simp only [SrcC, SrcL, List.take_succ_cons, List.take_zero, Nat.add_comm 1 32, List.drop_succ_cons]
  rw [List.drop_append_of_le_length (by rw [B8_length, hs]; omega), List.drop_of_length_le (by rw [B8_length, hs]; omega)]
  simp [W8, B8]
theorem SrcC_put_at (hs : seed.length = 32) (u2 bk2 : Nat) (h2 : Bool) :
    ((SrcC fv seed begun u bk held blk).toList.take 34 ++ (([.int .i64 (u2 : Int), .int .i64 (bk2 : Int), .bool h2] : List Value) ++ (SrcC fv seed begun u bk held blk).toList.drop (34 + 3))).toArray = SrcC fv seed begun u2 bk2 h2 blk := by
  have e1 : (SrcL fv seed begun u bk held blk).take 34 = fv :: (B8 seed ++ [.bool begun]) := by
    rw [SrcL, List.take_succ_cons, List.take_append, List.take_of_length_le (by rw [B8_length, hs]; omega), B8_length, hs]
    rfl
  have e2 : (SrcL fv seed begun u bk held blk).drop 37 = B8 blk := by
    rw [SrcL, List.drop_succ_cons, List.drop_append, List.drop_of_length_le (by rw [B8_length, hs]; omega), B8_length, hs]
    rfl
  rw [SrcC, SrcC]
  simp only [Nat.reduceAdd]
  rw [e1, e2]
  simp [SrcL]
theorem SrcC_put_blk (hs : seed.length = 32) (hb : blk.length = 32) (v : List UInt8) (hv : v.length = 32) :
    ((SrcC fv seed begun u bk held blk).toList.take 37 ++ ((W8 v).toList ++ (SrcC fv seed begun u bk held blk).toList.drop (37 + (W8 v).size))).toArray = SrcC fv seed begun u bk held v := by
  have e1 : (SrcL fv seed begun u bk held blk).take 37 = fv :: (B8 seed ++ [.bool begun, .int .i64 (u : Int), .int .i64 (bk : Int), .bool held]) := by
    rw [SrcL, List.take_succ_cons, List.take_append, List.take_of_length_le (by rw [B8_length, hs]; omega), B8_length, hs]
    rfl
  have e2 : (SrcL fv seed begun u bk held blk).drop 69 = [] := List.drop_of_length_le (by have := @SrcC_size fv seed blk begun held u bk hs hb; simp only [SrcC, List.size_toArray] at this; omega)
  rw [SrcC, SrcC, W8_size, hv]
  simp only [Nat.reduceAdd]
  rw [e1, e2]
  simp [SrcL, W8, B8]
end
/-- A byte of the source. -/
def byteS (F : List UInt8) (i : Nat) : UInt8 := if i < F.length then F.getD i 0 else (hashL (hashL F ++ beL 8 ((i - F.length) / 32))).getD ((i - F.length) % 32) 0
/-- A source at block g, its first bytes in block D, so many told. -/
structure Src (g D : Nat) (F : List UInt8) (u : Nat) (b : Bool) (W : World) : Prop where
  has : ∃ A c seed begun bk held blk, W.heap[g]? = some (.cells (SrcC (.slice A F.length c) seed begun u bk held blk) 40 (0, 0)) ∧ F.length ≤ c ∧ RdB W A F ∧ (∀ a, A = some a → a.block ≠ g ∧ a.block < W.heap.size ∧ a.block = D) ∧ seed.length = 32 ∧ blk.length = 32 ∧ (begun = true → seed = hashL F) ∧ (held = true → begun = true ∧ blk = hashL (hashL F ++ beL 8 bk)) ∧ (b = true → begun = true)
theorem Src.lt {g D : Nat} {F : List UInt8} {u : Nat} {b : Bool} {W : World} (h : Src g D F u b W) : g < W.heap.size := by
  obtain ⟨A, c, seed, begun, bk, held, blk, h1, _⟩ := h.has
  exact row_lt h1
theorem Src.keep {g D : Nat} {F : List UInt8} {u : Nat} {b : Bool} {W W' : World} (h : Src g D F u b W) (hb : Below W.heap.size W W') : Src g D F u b W' := by
  obtain ⟨A, c, seed, begun, bk, held, blk, h1, h2, h3, h4, h5⟩ := h.has
  exact ⟨A, c, seed, begun, bk, held, blk, below_block hb (row_lt h1) h1, h2, h3.keep hb, fun a e => ⟨(h4 a e).1, Nat.lt_of_lt_of_le (h4 a e).2.1 hb.size, (h4 a e).2.2⟩, h5⟩
theorem Src.far {g D : Nat} {F : List UInt8} {u : Nat} {b : Bool} {W W' : World} {r : Option Nat} (h : Src g D F u b W) (hg : W.grownBy W' r) (hr : ∀ k, r = some k → k ≠ g ∧ k ≠ D) : Src g D F u b W' := by
  obtain ⟨A, c, seed, begun, bk, held, blk, h1, h2, h3, h4, h5⟩ := h.has
  exact ⟨A, c, seed, begun, bk, held, blk, grown_block hg (fun e => (hr g e.symm).1 rfl) h1, h2, h3.grown hg (fun k e a ea => by have := (h4 a ea).2.2; have := (hr k e).2; omega), fun a e => ⟨(h4 a e).1, Nat.lt_of_lt_of_le (h4 a e).2.1 hg.size, (h4 a e).2.2⟩, h5⟩
end Go.Proofs.Ytphpcegifdiofaa
