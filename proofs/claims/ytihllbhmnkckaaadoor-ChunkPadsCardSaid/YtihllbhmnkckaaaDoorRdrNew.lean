/- wire.Reader: one is made; what is wrong with it. No condition but those each theorem states. -/
import Derived.Test.YtihllbhmnkckaaaDoorRdrNum
namespace Go.Proofs.YtihllbhmnkckaaaDoor
set_option linter.unusedVariables false
set_option linter.unusedSimpArgs false
open Go.RowKit
attribute [local go_sem ↓] Go.wp_at_zero Go.wp_at_succ

set_option maxRecDepth 100000 in
set_option maxHeartbeats 1000000 in
theorem rnew_any (w : World) (A : Option Addr) (n c : Nat) (l : List UInt8) (hn : l.length = n) (hR : RdB w A l) (hb : n ≤ 140737488355328) :
    Calls Tryd.prog 16 #[.slice A n c] w fun e w' => ∃ g D, e = .returned (.pointer (some ⟨g, 0, none⟩)) ∧ w.heap.size ≤ g ∧ w.heap.size ≤ D ∧ Rdr g D ⟨l, 0⟩ w' ∧ Below w.heap.size w w' := by
  have HN := Lib.hid hn
  have HR := Lib.hid hR
  have HB := Lib.hid hb
  clear hn hR hb
  go_enter Tryd.func16, Tryd.ntmps16
  go_wp2_with fail
  refine (clone_any w A n c l HN.out HR.out HB.out).mono ?_
  rintro e w1 ⟨v, rfl, ho, hb⟩
  obtain ⟨A', c', rfl, hr, hl, _, hbk⟩ := ho.read
  obtain ⟨q, hq⟩ : ∃ q, q = l.length := ⟨_, rfl⟩
  rw [← hq] at hl ⊢
  have QE := Lib.hid hq
  have S := Lib.hid hb
  have RI := Lib.hid hr
  have LI := Lib.hid hl
  have BI := Lib.hid hbk
  clear ho hb hr hl hbk hq
  go_wp2_with fail
  go_ret
  obtain ⟨D, hD1, hD2⟩ : ∃ D, w.heap.size ≤ D ∧ ∀ a, A' = some a → a.block = D := by
    rcases A' with _ | a
    · exact ⟨w.heap.size, Nat.le_refl _, fun a e => by cases e⟩
    · exact ⟨a.block, (BI.out a rfl).1, fun b e => by cases e; rfl⟩
  refine ⟨_, D, rfl, S.out.size, hD1, ⟨⟨A', c', ?_, by rw [← QE.out]; exact LI.out, RI.out.keep (below_new _ _), fun a ea => ?_⟩, .inl rfl, by rw [HN.out]; exact HB.out⟩, S.out.alloc S.out.size _⟩
  · rw [← QE.out]
    exact ha_new _ _ _ rfl
  · have := (BI.out a ea).2
    exact ⟨by omega, by rw [ha_size]; omega, hD2 a ea⟩
set_option maxRecDepth 100000 in
set_option maxHeartbeats 1000000 in
theorem wrong_any (g D : Nat) (s : RSt) (w : World) (h : Rdr g D s w) :
    Calls Tryd.prog 19 #[.pointer (some ⟨g, 0, none⟩)] w fun e w' => e = .returned (.int .i64 (s.e : Int)) ∧ w' = w := by
  have R := Lib.hid h
  obtain ⟨A, c, h1, _⟩ := h.has
  have c1 := row_cell h1 1 rfl
  have hc := errV_cases h.ok
  clear h1 h
  rcases hc with ⟨he, hv⟩ | ⟨he, _, hv⟩ | ⟨he, _, hv⟩
  · have E := Lib.hid he
    clear hv he c1
    go_enter Tryd.func19, Tryd.ntmps19
    go_wp2_with fail
    refine (fine_any g D s w R.out).mono ?_
    rw [E.out]
    rintro e w ⟨rfl, rfl⟩
    go_wp2_with fail
    go_ret
    exact ⟨by rw [E.out]; rfl, rfl⟩
  · rw [hv] at c1
    have E := Lib.hid he
    clear hv he
    go_enter Tryd.func19, Tryd.ntmps19
    go_wp2_with fail
    refine (fine_any g D s w R.out).mono ?_
    rw [E.out]
    rintro e w1 ⟨rfl, hw⟩
    rw [hw]
    clear hw w1
    go_wp2_with fail
    refine (is_big w).mono ?_
    rintro e w1 ⟨rfl, hw⟩
    rw [hw]
    clear hw w1
    go_wp2_with fail
    go_ret
    exact ⟨by rw [E.out]; rfl, rfl⟩
  · rw [hv] at c1
    have E := Lib.hid he
    clear hv he
    go_enter Tryd.func19, Tryd.ntmps19
    go_wp2_with fail
    refine (fine_any g D s w R.out).mono ?_
    rw [E.out]
    rintro e w1 ⟨rfl, hw⟩
    rw [hw]
    clear hw w1
    go_wp2_with fail
    refine (is_end w).mono ?_
    rintro e w1 ⟨rfl, hw⟩
    rw [hw]
    clear hw w1
    go_wp2_with fail
    go_ret
    exact ⟨by rw [E.out]; rfl, rfl⟩
end Go.Proofs.YtihllbhmnkckaaaDoor
