/- The document's word of four bytes. -/
import Derived.Test.YtdheopihcohciaaRefQ
import Derived.Test.YtdheopihcohciaaCuts
import Derived.Test.YtdheopihcohciaaPlan
namespace Go.Proofs.Ytdheopihcohciaa
set_option linter.unusedVariables false
set_option linter.unusedSimpArgs false
open Go.RowKit
attribute [local go_sem ↓] Go.wp_at_zero Go.wp_at_succ

def wordL (b : List UInt8) (i : Nat) : UInt32 := (b.getD (4 * i) 0).toUInt32 + (b.getD (4 * i + 1) 0).toUInt32 <<< 8 + (b.getD (4 * i + 2) 0).toUInt32 <<< 16 + (b.getD (4 * i + 3) 0).toUInt32 <<< 24

theorem word_val (x0 x1 x2 x3 : UInt8) : IntKind.u32.wrap (IntKind.u32.wrap (IntKind.u32.wrap (IntKind.u32.wrap (x0.toNat : Int) + IntKind.u32.wrap (IntKind.u32.wrap (x1.toNat : Int) * 256)) + IntKind.u32.wrap (IntKind.u32.wrap (x2.toNat : Int) * 65536)) + IntKind.u32.wrap (IntKind.u32.wrap (x3.toNat : Int) * 16777216)) = ((x0.toUInt32 + x1.toUInt32 <<< 8 + x2.toUInt32 <<< 16 + x3.toUInt32 <<< 24).toNat : Int) := by
  have h0 := x0.toNat_lt
  have h1 := x1.toNat_lt
  have h2 := x2.toNat_lt
  have h3 := x3.toNat_lt
  simp only [IntKind.wrap_u32, UInt32.toNat_add, UInt32.toNat_shiftLeft, UInt8.toNat_toUInt32, Nat.shiftLeft_eq]
  have e1 : (8 : UInt32).toNat % 32 = 8 := rfl
  have e2 : (16 : UInt32).toNat % 32 = 16 := rfl
  have e3 : (24 : UInt32).toNat % 32 = 24 := rfl
  rw [e1, e2, e3]
  omega
set_option maxRecDepth 100000 in
set_option maxHeartbeats 1000000 in
theorem word_any (b : List UInt8) (i : Nat) (w : World) (h : 4 * i + 3 < b.length) (hi : i ≤ 1000) :
    Calls Try.prog 34 #[.string (strB b), .int .i64 (i : Int)] w fun e w' => e = .returned (.int .u32 ((wordL b i).toNat : Int)) ∧ w' = w.drew := by
  have H := Lib.hid h
  have e0 : Hid (IntKind.i64.wrap (4 * (i : Int)) = ((4 * i : Nat) : Int)) := by show _ = _; rw [IntKind.wrap_i64]; omega
  have e1 : Hid (IntKind.i64.wrap (IntKind.i64.wrap (4 * (i : Int)) + 1) = ((4 * i + 1 : Nat) : Int)) := by show _ = _; rw [e0.out, IntKind.wrap_i64]; omega
  have e2 : Hid (IntKind.i64.wrap (IntKind.i64.wrap (4 * (i : Int)) + 2) = ((4 * i + 2 : Nat) : Int)) := by show _ = _; rw [e0.out, IntKind.wrap_i64]; omega
  have e3 : Hid (IntKind.i64.wrap (IntKind.i64.wrap (4 * (i : Int)) + 3) = ((4 * i + 3 : Nat) : Int)) := by show _ = _; rw [e0.out, IntKind.wrap_i64]; omega
  obtain ⟨x0, h0⟩ : ∃ x, x = b.getD (4 * i) 0 := ⟨_, rfl⟩
  obtain ⟨x1, h1⟩ : ∃ x, x = b.getD (4 * i + 1) 0 := ⟨_, rfl⟩
  obtain ⟨x2, h2⟩ : ∃ x, x = b.getD (4 * i + 2) 0 := ⟨_, rfl⟩
  obtain ⟨x3, h3⟩ : ∃ x, x = b.getD (4 * i + 3) 0 := ⟨_, rfl⟩
  have X : Hid (wordL b i = x0.toUInt32 + x1.toUInt32 <<< 8 + x2.toUInt32 <<< 16 + x3.toUInt32 <<< 24) := by show _ = _; rw [h0, h1, h2, h3]; rfl
  have H0 := Lib.hid h0
  have H1 := Lib.hid h1
  have H2 := Lib.hid h2
  have H3 := Lib.hid h3
  clear h h0 h1 h2 h3
  go_enter Try.func34, Try.ntmps34
  go_upto_region 1 with fail
  refine wp_region_plan (fun W => W = w.drew) [0, 1, 2, 3, 4, 5, 6, 7, 8, 9, 10, 11, 12, 13, 14, 15, 16, 17, 18, 19, 20, 21, 22, 23, 24, 25, 26, 27, 28] [29] (by kernel_rfl) (by kernel_rfl) (fun _ _ d _ _ h => by cases d <;> exact h) (rfl) ?_
  simp only [List.filterMap_cons, List.filterMap_nil, List.getElem?_toArray, List.getElem?_cons_zero, List.getElem?_cons_succ]
  refine planQ_cons (v := ?_) (by rfl) ?_ ?_
  rotate_left
  · intro W hW
    go_simp
    with_reducible rfl
  simp only [Act.put, List.setIfInBounds_toArray, List.set_cons_zero, List.set_cons_succ]
  refine planQ_cons (v := ?_) (by rfl) ?_ ?_
  rotate_left
  · intro W hW
    go_simp
    with_reducible rfl
  simp only [Act.put, List.setIfInBounds_toArray, List.set_cons_zero, List.set_cons_succ]
  refine planQ_cons (v := ?_) (by rfl) ?_ ?_
  rotate_left
  · intro W hW
    go_simp
    with_reducible rfl
  simp only [Act.put, List.setIfInBounds_toArray, List.set_cons_zero, List.set_cons_succ]
  refine planQ_cons (by rfl) (fun W hW => run_idx_str 9 (.tmp 5) (.tmp 7) rfl Try.underlying9 b (4 * i) x0 H0.out (by have := H.out; omega) .i64 _ e0.out rfl rfl W) ?_
  simp only [Act.put, List.setIfInBounds_toArray, List.set_cons_zero, List.set_cons_succ]
  refine planQ_cons (v := ?_) (by rfl) ?_ ?_
  rotate_left
  · intro W hW
    go_simp
    with_reducible rfl
  simp only [Act.put, List.setIfInBounds_toArray, List.set_cons_zero, List.set_cons_succ]
  refine planQ_cons (v := ?_) (by rfl) ?_ ?_
  rotate_left
  · intro W hW
    go_simp
    with_reducible rfl
  simp only [Act.put, List.setIfInBounds_toArray, List.set_cons_zero, List.set_cons_succ]
  refine planQ_cons (v := ?_) (by rfl) ?_ ?_
  rotate_left
  · intro W hW
    go_simp
    with_reducible rfl
  simp only [Act.put, List.setIfInBounds_toArray, List.set_cons_zero, List.set_cons_succ]
  refine planQ_cons (v := ?_) (by rfl) ?_ ?_
  rotate_left
  · intro W hW
    go_simp
    with_reducible rfl
  simp only [Act.put, List.setIfInBounds_toArray, List.set_cons_zero, List.set_cons_succ]
  refine planQ_cons (v := ?_) (by rfl) ?_ ?_
  rotate_left
  · intro W hW
    go_simp
    with_reducible rfl
  simp only [Act.put, List.setIfInBounds_toArray, List.set_cons_zero, List.set_cons_succ]
  refine planQ_cons (by rfl) (fun W hW => run_idx_str 9 (.tmp 10) (.tmp 13) rfl Try.underlying9 b (4 * i + 1) x1 H1.out (by have := H.out; omega) .i64 _ e1.out rfl rfl W) ?_
  simp only [Act.put, List.setIfInBounds_toArray, List.set_cons_zero, List.set_cons_succ]
  refine planQ_cons (v := ?_) (by rfl) ?_ ?_
  rotate_left
  · intro W hW
    go_simp
    with_reducible rfl
  simp only [Act.put, List.setIfInBounds_toArray, List.set_cons_zero, List.set_cons_succ]
  refine planQ_cons (v := ?_) (by rfl) ?_ ?_
  rotate_left
  · intro W hW
    go_simp
    with_reducible rfl
  simp only [Act.put, List.setIfInBounds_toArray, List.set_cons_zero, List.set_cons_succ]
  refine planQ_cons (v := ?_) (by rfl) ?_ ?_
  rotate_left
  · intro W hW
    go_simp
    with_reducible rfl
  simp only [Act.put, List.setIfInBounds_toArray, List.set_cons_zero, List.set_cons_succ]
  refine planQ_cons (v := ?_) (by rfl) ?_ ?_
  rotate_left
  · intro W hW
    go_simp
    with_reducible rfl
  simp only [Act.put, List.setIfInBounds_toArray, List.set_cons_zero, List.set_cons_succ]
  refine planQ_cons (v := ?_) (by rfl) ?_ ?_
  rotate_left
  · intro W hW
    go_simp
    with_reducible rfl
  simp only [Act.put, List.setIfInBounds_toArray, List.set_cons_zero, List.set_cons_succ]
  refine planQ_cons (v := ?_) (by rfl) ?_ ?_
  rotate_left
  · intro W hW
    go_simp
    with_reducible rfl
  simp only [Act.put, List.setIfInBounds_toArray, List.set_cons_zero, List.set_cons_succ]
  refine planQ_cons (v := ?_) (by rfl) ?_ ?_
  rotate_left
  · intro W hW
    go_simp
    with_reducible rfl
  simp only [Act.put, List.setIfInBounds_toArray, List.set_cons_zero, List.set_cons_succ]
  refine planQ_cons (by rfl) (fun W hW => run_idx_str 9 (.tmp 18) (.tmp 21) rfl Try.underlying9 b (4 * i + 2) x2 H2.out (by have := H.out; omega) .i64 _ e2.out rfl rfl W) ?_
  simp only [Act.put, List.setIfInBounds_toArray, List.set_cons_zero, List.set_cons_succ]
  refine planQ_cons (v := ?_) (by rfl) ?_ ?_
  rotate_left
  · intro W hW
    go_simp
    with_reducible rfl
  simp only [Act.put, List.setIfInBounds_toArray, List.set_cons_zero, List.set_cons_succ]
  refine planQ_cons (v := ?_) (by rfl) ?_ ?_
  rotate_left
  · intro W hW
    go_simp
    with_reducible rfl
  simp only [Act.put, List.setIfInBounds_toArray, List.set_cons_zero, List.set_cons_succ]
  refine planQ_cons (v := ?_) (by rfl) ?_ ?_
  rotate_left
  · intro W hW
    go_simp
    with_reducible rfl
  simp only [Act.put, List.setIfInBounds_toArray, List.set_cons_zero, List.set_cons_succ]
  refine planQ_cons (v := ?_) (by rfl) ?_ ?_
  rotate_left
  · intro W hW
    go_simp
    with_reducible rfl
  simp only [Act.put, List.setIfInBounds_toArray, List.set_cons_zero, List.set_cons_succ]
  refine planQ_cons (v := ?_) (by rfl) ?_ ?_
  rotate_left
  · intro W hW
    go_simp
    with_reducible rfl
  simp only [Act.put, List.setIfInBounds_toArray, List.set_cons_zero, List.set_cons_succ]
  refine planQ_cons (v := ?_) (by rfl) ?_ ?_
  rotate_left
  · intro W hW
    go_simp
    with_reducible rfl
  simp only [Act.put, List.setIfInBounds_toArray, List.set_cons_zero, List.set_cons_succ]
  refine planQ_cons (v := ?_) (by rfl) ?_ ?_
  rotate_left
  · intro W hW
    go_simp
    with_reducible rfl
  simp only [Act.put, List.setIfInBounds_toArray, List.set_cons_zero, List.set_cons_succ]
  refine planQ_cons (by rfl) (fun W hW => run_idx_str 9 (.tmp 26) (.tmp 29) rfl Try.underlying9 b (4 * i + 3) x3 H3.out (by have := H.out; omega) .i64 _ e3.out rfl rfl W) ?_
  simp only [Act.put, List.setIfInBounds_toArray, List.set_cons_zero, List.set_cons_succ]
  refine planQ_cons (v := ?_) (by rfl) ?_ ?_
  rotate_left
  · intro W hW
    go_simp
    with_reducible rfl
  simp only [Act.put, List.setIfInBounds_toArray, List.set_cons_zero, List.set_cons_succ]
  refine planQ_cons (v := ?_) (by rfl) ?_ ?_
  rotate_left
  · intro W hW
    go_simp
    with_reducible rfl
  simp only [Act.put, List.setIfInBounds_toArray, List.set_cons_zero, List.set_cons_succ]
  refine planQ_cons (v := ?_) (by rfl) ?_ ?_
  rotate_left
  · intro W hW
    go_simp
    with_reducible rfl
  simp only [Act.put, List.setIfInBounds_toArray, List.set_cons_zero, List.set_cons_succ]
  refine planQ_nil ?_
  refine planT_cons (by rfl) (fun K hK => ?_)
  go_simp
  refine hK.out _ _ (rfl) ?_
  clear hK K
  refine planT_nil ?_
  go_wp2_with fail
  go_ret
  rw [X.out]
  exact ⟨congrArg (fun z => Ending.returned (.int .u32 z)) (word_val x0 x1 x2 x3), rfl⟩
end Go.Proofs.Ytdheopihcohciaa
