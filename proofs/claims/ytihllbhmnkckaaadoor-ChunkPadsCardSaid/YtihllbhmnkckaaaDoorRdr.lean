/- wire.Reader: what it holds, and its small steps. No condition but those each theorem states. -/
import Derived.Test.YtihllbhmnkckaaaDoorIs
import Derived.Test.YtihllbhmnkckaaaDoorOps
import Derived.Test.YtihllbhmnkckaaaDoorHelp
namespace Go.Proofs.YtihllbhmnkckaaaDoor
set_option linter.unusedVariables false
set_option linter.unusedSimpArgs false
open Go.RowKit
attribute [local go_sem ↓] Go.wp_at_zero Go.wp_at_succ

/-- What is wrong, as a value. -/
def errV (e : Nat) : Value := if e = 0 then .nilIface else .iface 23 (.int .i64 (e : Int))
/-- A reader: what is left, and what is wrong. -/
structure RSt where
  l : List UInt8
  e : Nat
structure Rdr (g D : Nat) (s : RSt) (W : World) : Prop where
  has : ∃ A c, W.heap[g]? = some (.cells #[.slice A s.l.length c, errV s.e] 52 (0, 0)) ∧ s.l.length ≤ c ∧ RdB W A s.l ∧ ∀ a, A = some a → a.block ≠ g ∧ a.block < W.heap.size ∧ a.block = D
  ok : s.e = 0 ∨ ((s.e = 3 ∨ s.e = 10) ∧ s.l = [])
  few : s.l.length ≤ 140737488355328
theorem Rdr.lt {g D : Nat} {s : RSt} {W : World} (h : Rdr g D s W) : g < W.heap.size := by
  obtain ⟨A, c, h1, _⟩ := h.has
  exact row_lt h1
theorem Rdr.keep {g D : Nat} {s : RSt} {W W' : World} (h : Rdr g D s W) (hb : Below W.heap.size W W') : Rdr g D s W' := by
  obtain ⟨A, c, h1, h2, h3, h4⟩ := h.has
  exact ⟨⟨A, c, below_block hb (row_lt h1) h1, h2, h3.keep hb, fun a e => ⟨(h4 a e).1, Nat.lt_of_lt_of_le (h4 a e).2.1 hb.size, (h4 a e).2.2⟩⟩, h.ok, h.few⟩
/-- .. left alone by what grows another block that its bytes don't lie in. -/
theorem Rdr.far {g D : Nat} {s : RSt} {W W' : World} {r : Option Nat} (h : Rdr g D s W) (hg : W.grownBy W' r) (hr : ∀ k, r = some k → k ≠ g ∧ k ≠ D) : Rdr g D s W' := by
  obtain ⟨A, c, h1, h2, h3, h4⟩ := h.has
  refine ⟨⟨A, c, grown_block hg (fun e => (hr g e.symm).1 rfl) h1, h2, h3.grown hg (fun k e a ea => ?_), fun a e => ⟨(h4 a e).1, Nat.lt_of_lt_of_le (h4 a e).2.1 hg.size, (h4 a e).2.2⟩⟩, h.ok, h.few⟩
  have h5 := (h4 a ea).2.2
  have h6 := (hr k e).2
  omega
theorem errV_cases {s : RSt} (h : s.e = 0 ∨ ((s.e = 3 ∨ s.e = 10) ∧ s.l = [])) : (s.e = 0 ∧ errV s.e = .nilIface) ∨ (s.e = 3 ∧ s.l = [] ∧ errV s.e = .iface 23 (.int .i64 3)) ∨ (s.e = 10 ∧ s.l = [] ∧ errV s.e = .iface 23 (.int .i64 10)) := by
  rcases h with h | ⟨h | h, h2⟩
  · exact .inl ⟨h, by simp [errV, h]⟩
  · exact .inr (.inl ⟨h, h2, by simp [errV, h]⟩)
  · exact .inr (.inr ⟨h, h2, by simp [errV, h]⟩)
set_option maxRecDepth 100000 in
set_option maxHeartbeats 1000000 in
theorem fine_any (g D : Nat) (s : RSt) (w : World) (h : Rdr g D s w) :
    Calls Tryd.prog 27 #[.pointer (some ⟨g, 0, none⟩)] w fun e w' => e = .returned (.bool (decide (s.e = 0))) ∧ w' = w := by
  obtain ⟨A, c, h1, _⟩ := h.has
  have c1 := row_cell h1 1 rfl
  clear h1
  have hc := errV_cases h.ok
  rcases hc with ⟨he, hv⟩ | ⟨he, _, hv⟩ | ⟨he, _, hv⟩
  all_goals
    rw [hv] at c1
    rw [he]
    clear hv
    go_enter Tryd.func27, Tryd.ntmps27
    go_wp2_with fail
    go_ret
    exact ⟨rfl, rfl⟩
set_option maxRecDepth 100000 in
set_option maxHeartbeats 1000000 in
theorem fine_nil (w : World) : Calls Tryd.prog 27 #[.pointer none] w fun e w' => e = .returned (.bool true) ∧ w' = w := by
  go_enter Tryd.func27, Tryd.ntmps27
  go_wp2_with fail
  go_ret
  exact ⟨rfl, rfl⟩
set_option maxRecDepth 100000 in
set_option maxHeartbeats 1000000 in
theorem left_any (g D : Nat) (s : RSt) (w : World) (h : Rdr g D s w) :
    Calls Tryd.prog 21 #[.pointer (some ⟨g, 0, none⟩)] w fun e w' => e = .returned (.int .i64 (s.l.length : Int)) ∧ w' = w := by
  obtain ⟨A, c, h1, _⟩ := h.has
  have c0 := row_cell h1 0 rfl
  clear h1
  go_enter Tryd.func21, Tryd.ntmps21
  go_wp2_with fail
  go_ret
  exact ⟨rfl, rfl⟩
theorem left_nil (w : World) : Calls Tryd.prog 21 #[.pointer none] w fun e w' => e = .returned (.int .i64 0) ∧ w' = w := by
  go_enter Tryd.func21, Tryd.ntmps21
  go_wp2_with fail
  go_ret
  exact ⟨rfl, rfl⟩
set_option maxRecDepth 100000 in
set_option maxHeartbeats 1000000 in
theorem fail_any (g D : Nat) (s : RSt) (w : World) (h : Rdr g D s w) (k : Nat) (hk : k = 3 ∨ k = 10) :
    Calls Tryd.prog 38 #[.pointer (some ⟨g, 0, none⟩), .int .i64 (k : Int)] w fun e w' => e = .returned (.tuple #[]) ∧ Rdr g D ⟨[], k⟩ w' ∧ w.grownBy w' (some g) := by
  obtain ⟨A, c, h1, _⟩ := h.has
  obtain ⟨v, hv⟩ : ∃ v, v = errV s.e := ⟨_, rfl⟩
  rw [← hv] at h1
  have HK := Lib.hid hk
  have G := Lib.hid h1
  have a0 := row_cell h1 0 rfl
  have a1 := row_cell h1 1 rfl
  have f0 := row_free h1 0
  have f1 := row_free h1 1
  clear h1 hk
  go_enter Tryd.func38, Tryd.ntmps38
  go_wp2_with fail
  go_end0
  have hg1 : (w.setCell ⟨g, 0, none⟩ (.slice none 0 0)).heap[g]? = some (.cells #[.slice none 0 0, v] 52 (0, 0)) := by rw [heap_setCell_same _ _ _ _ _ _ G.out]; rfl
  have hg2 : ((w.setCell ⟨g, 0, none⟩ (.slice none 0 0)).setCell ⟨g, 1, none⟩ (.iface 23 (.int .i64 (k : Int)))).heap[g]? = some (.cells #[.slice none 0 0, .iface 23 (.int .i64 (k : Int))] 52 (0, 0)) := by rw [heap_setCell_same _ _ _ _ _ _ hg1]; rfl
  have ek : errV k = .iface 23 (.int .i64 (k : Int)) := by unfold errV; rw [if_neg (by have := HK.out; omega)]
  refine ⟨rfl, ⟨⟨none, 0, ?_, Nat.le_refl _, RdB.nil _ _, fun a e => by cases e⟩, .inr ⟨HK.out, rfl⟩, by simp⟩, grown_set (grown_set (World.grownBy.refl _ _) _ _) _ _⟩
  rw [hg2, ek]
  rfl
theorem fail_nil (w : World) (k : Int) : Calls Tryd.prog 38 #[.pointer none, .int .i64 k] w fun e w' => e = .returned (.tuple #[]) ∧ w' = w := by
  go_enter Tryd.func38, Tryd.ntmps38
  go_wp2_with fail
  go_end0
  exact ⟨rfl, rfl⟩
end Go.Proofs.YtihllbhmnkckaaaDoor
