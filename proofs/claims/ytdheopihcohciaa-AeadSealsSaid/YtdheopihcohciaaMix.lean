/- The rounds of a block: what mix, quarter, double do to a state of sixteen words that lies in memory. -/
import Derived.Test.YtdheopihcohciaaProg
import Derived.Test.YtdheopihcohciaaRot
namespace Go.Proofs.Ytdheopihcohciaa
set_option linter.unusedVariables false
set_option linter.unusedSimpArgs false
open Go.RowKit

/-- Half a quarter round. -/
def mixL (l : List UInt32) (a b c d f s : Nat) : List UInt32 :=
  let l1 := l.set a (l.getD a 0 + l.getD b 0)
  let l2 := l1.set d (rotl (l1.getD d 0 ^^^ l1.getD a 0) f)
  let l3 := l2.set c (l2.getD c 0 + l2.getD d 0)
  l3.set b (rotl (l3.getD b 0 ^^^ l3.getD c 0) s)
theorem mixL_length (l : List UInt32) (a b c d f s : Nat) : (mixL l a b c d f s).length = l.length := by simp [mixL]

/-- What is known of a world in which only block g was written, and which holds l there. -/
def StOK (w : World) (g : Nat) (l : List UInt32) (W : World) : Prop := W.heap[g]? = some (.cells (W32 l) 55 (0, 0)) ∧ w.grownBy W (some g)
theorem StOK.cell {w W : World} {g : Nat} {l : List UInt32} (h : StOK w g l W) (i : Nat) (hi : i < l.length) : W.cell? ⟨g, i, none⟩ = some (.int .u32 ((l.getD i 0).toNat : Int)) := row_cell h.1 i (W32_get l i hi)
theorem StOK.pick {w W : World} {g : Nat} {l : List UInt32} (h : StOK w g l W) (i : Nat) (hi : i < l.length) : ∃ x : UInt32, Hid (x = l.getD i 0) ∧ W.cell? ⟨g, i, none⟩ = some (.int .u32 (x.toNat : Int)) := ⟨_, rfl, h.cell i hi⟩
theorem StOK.free {w W : World} {g : Nat} {l : List UInt32} (h : StOK w g l W) (i : Nat) : W.frozen? ⟨g, i, none⟩ = false := row_free h.1 i
theorem StOK.set {w W : World} {g : Nat} {l : List UInt32} (h : StOK w g l W) (i : Nat) (x : UInt32) (v : Int) (hv : v = (x.toNat : Int)) : StOK w g (l.set i x) (W.setCell ⟨g, i, none⟩ (.int .u32 v)) := by
  subst hv
  exact ⟨by rw [heap_setCell_same _ _ _ _ _ _ h.1, W32_set], grown_set h.2 _ _⟩
theorem StOK.drew {w W : World} {g : Nat} {l : List UInt32} (h : StOK w g l W) : StOK w g l W.drew := ⟨h.1, grown_drew h.2⟩
theorem StOK.refl {w : World} {g : Nat} {l : List UInt32} (h : w.heap[g]? = some (.cells (W32 l) 55 (0, 0))) : StOK w g l w := ⟨h, World.grownBy.refl _ _⟩
theorem StOK.trans {w W W' : World} {g : Nat} {l l' : List UInt32} (h : StOK w g l W) (h' : StOK W g l' W') : StOK w g l' W' := ⟨h'.1, World.grownBy.trans h.2 h'.2⟩

set_option maxRecDepth 100000 in
theorem mix_any (g : Nat) (l : List UInt32) (hl : l.length = 16) (w : World) (H : StOK w g l w) (a b c d f s : Nat) (ha : (a : Int) < 16) (hb : (b : Int) < 16) (hc : (c : Int) < 16) (hd : (d : Int) < 16)
    (hf : (f : Int) < 32) (hf0 : (0 : Int) < f) (hkf : bits .and .u64 (IntKind.u64.wrap (f : Int)) 31 = (f : Int)) (hs : (s : Int) < 32) (hs0 : (0 : Int) < s) (hks : bits .and .u64 (IntKind.u64.wrap (s : Int)) 31 = (s : Int)) :
    Calls Try.prog 50 #[.pointer (some ⟨g, 0, none⟩), .int .i64 (a : Int), .int .i64 (b : Int), .int .i64 (c : Int), .int .i64 (d : Int), .int .i64 (f : Int), .int .i64 (s : Int)] w fun e w' =>
      e = .returned (.tuple #[]) ∧ StOK w g (mixL l a b c d f s) w' := by
  have HL := Lib.hid hl
  have K1 := Lib.hid hkf
  have K2 := Lib.hid hks
  have H0 := Lib.hid H
  obtain ⟨x, hx, a1⟩ := H.pick a (by omega)
  obtain ⟨y, hy, a2⟩ := H.pick b (by omega)
  have a3 := H.free a
  clear hkf hks H hl
  go_enter Try.func50, Try.ntmps50
  go_wp2
  go_region
  go_wp2
  clear a1 a2 a3
  refine wp_abs (fun W => StOK w g (l.set a (l.getD a 0 + l.getD b 0)) W) ((H0.out.set a _ _ (by rw [← hx.out, ← hy.out]; exact u32_add _ _)).drew) ?_
  clear hx hy
  generalize hl1 : l.set a (l.getD a 0 + l.getD b 0) = l1
  have HL1 := Lib.hid hl1
  have N1 := Lib.hid (show l1.length = 16 by rw [← hl1]; simpa using HL.out)
  clear hl1
  rintro w1 H1'
  have H1 := Lib.hid H1'
  obtain ⟨x1, hx, a1⟩ := H1'.pick d (by have := N1.out; omega)
  obtain ⟨y1, hy, a2⟩ := H1'.pick a (by have := N1.out; omega)
  have a3 := H1'.free d
  clear H1'
  obtain ⟨z1, hz, X⟩ := u32_xor_ex x1 y1
  go_still_tail 17, (by kernel_rfl)
  still_call (rot_any _ _ _ f hf hf0 K1.out)
  repeat still_step
  refine wpStill_nil ?_
  change wpList _ _ _ _ _ w1.drew
  go_wp2
  clear a1 a2 a3 X
  refine wp_abs (fun W => StOK w g (l1.set d (rotl (l1.getD d 0 ^^^ l1.getD a 0) f)) W) (by rw [← hx.out, ← hy.out, ← hz.out]; exact (H1.out.set d _ _ rfl).drew) ?_
  clear hx hy hz
  generalize hl2 : l1.set d (rotl (l1.getD d 0 ^^^ l1.getD a 0) f) = l2
  have HL2 := Lib.hid hl2
  have N2 := Lib.hid (show l2.length = 16 by rw [← hl2]; simpa using N1.out)
  clear hl2
  rintro w2 H2'
  have H2 := Lib.hid H2'
  obtain ⟨x2, hx, a1⟩ := H2'.pick c (by have := N2.out; omega)
  obtain ⟨y2, hy, a2⟩ := H2'.pick d (by have := N2.out; omega)
  have a3 := H2'.free c
  clear H2'
  go_region
  go_wp2
  clear a1 a2 a3
  refine wp_abs (fun W => StOK w g (l2.set c (l2.getD c 0 + l2.getD d 0)) W) ((H2.out.set c _ _ (by rw [← hx.out, ← hy.out]; exact u32_add _ _)).drew) ?_
  clear hx hy
  generalize hl3 : l2.set c (l2.getD c 0 + l2.getD d 0) = l3
  have HL3 := Lib.hid hl3
  have N3 := Lib.hid (show l3.length = 16 by rw [← hl3]; simpa using N2.out)
  clear hl3
  rintro w3 H3'
  have H3 := Lib.hid H3'
  obtain ⟨x3, hx, a1⟩ := H3'.pick b (by have := N3.out; omega)
  obtain ⟨y3, hy, a2⟩ := H3'.pick c (by have := N3.out; omega)
  have a3 := H3'.free b
  clear H3'
  obtain ⟨z3, hz, X⟩ := u32_xor_ex x3 y3
  go_still_tail 17, (by kernel_rfl)
  still_call (rot_any _ _ _ s hs hs0 K2.out)
  repeat still_step
  refine wpStill_nil ?_
  change wpList _ _ _ _ _ w3.drew
  go_wp2
  go_end0
  refine ⟨rfl, ?_⟩
  have F : StOK w g (l3.set b (rotl (l3.getD b 0 ^^^ l3.getD c 0) s)) (w3.setCell ⟨g, b, none⟩ (.int .u32 ((rotl z3 s).toNat : Int))).drew := by rw [← hx.out, ← hy.out, ← hz.out]; exact (H3.out.set b _ _ rfl).drew
  have E : l3.set b (rotl (l3.getD b 0 ^^^ l3.getD c 0) s) = mixL l a b c d f s := by
    rw [← HL3.out, ← HL2.out, ← HL1.out]; rfl
  rw [← E]; exact F
end Go.Proofs.Ytdheopihcohciaa
