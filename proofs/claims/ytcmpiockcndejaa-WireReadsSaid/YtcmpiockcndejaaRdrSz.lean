/- wire.Reader: texts are read; one is made; what is wrong with it. No condition but those each theorem states. -/
import Derived.Test.YtcmpiockcndejaaRdrNum
namespace Go.Proofs.Ytcmpiockcndejaa
set_option linter.unusedVariables false
set_option linter.unusedSimpArgs false
open Go.RowKit
attribute [local go_sem ↓] Go.wp_at_zero Go.wp_at_succ

/-- A text. -/
def sizedS (s : RSt) : RSt × List UInt8 := if 65536 < (numS s 4).2 then (⟨[], 3⟩, []) else ((takeS (numS s 4).1 ((numS s 4).2 : Int)).1, (takeS (numS s 4).1 ((numS s 4).2 : Int)).2.1)
theorem numS_lt (s : RSt) (n : Int) : (numS s n).2 < 18446744073709551616 := by
  have h1 := beVal_lt (takeS s (min n 8)).2.1
  have h2 := takeS_le s (min n 8) 8 (by omega)
  have h3 : 256 ^ (takeS s (min n 8)).2.1.length ≤ 256 ^ 8 := Nat.pow_le_pow_right (by omega) h2
  unfold numS
  simp only
  omega
theorem numS_few (s : RSt) (n : Int) : (numS s n).1.l.length ≤ s.l.length := takeS_few _ _
set_option maxRecDepth 100000 in
set_option maxHeartbeats 4000000 in
theorem rsz_any (g D : Nat) (s : RSt) (w : World) (h : Rdr g D s w) :
    Calls Try.prog 25 #[.pointer (some ⟨g, 0, none⟩)] w fun e w' => (∃ v, e = .returned v ∧ OwnB w' w.heap.size v (sizedS s).2) ∧ Rdr g D (sizedS s).1 w' ∧ w.grownBy w' (some g) := by
  have R := Lib.hid h
  clear h
  go_enter Try.func25, Try.ntmps25
  go_wp2_with fail
  refine (num_any g D s 4 (by omega) w R.out).mono ?_
  have VL := Lib.hid (numS_lt s 4)
  obtain ⟨t, ht⟩ : ∃ t, t = numS s 4 := ⟨_, rfl⟩
  rw [← ht] at VL ⊢
  have SE := Lib.hid (show sizedS s = if 65536 < t.2 then (⟨[], 3⟩, []) else ((takeS t.1 (t.2 : Int)).1, (takeS t.1 (t.2 : Int)).2.1) by rw [ht]; rfl)
  obtain ⟨s1, v⟩ := t
  simp only
  rintro e w1 ⟨rfl, hr, hg⟩
  have VL := Lib.hid (show v < 18446744073709551616 from VL.out)
  have R1 := Lib.hid hr
  have G1 := Lib.hid hg
  clear ht hr hg
  by_cases hv : 65536 < v
  · have hD : decide ((65536 : Int) < (v : Int)) = true := by simp; omega
    have SF := Lib.hid (show sizedS s = (⟨[], 3⟩, []) by rw [SE.out, if_pos hv])
    go_wp2_with fail
    refine (fail_any g D s1 w1 R1.out 3 (by omega)).mono ?_
    rintro e w2 ⟨rfl, hr, hg⟩
    have R2 := Lib.hid hr
    have G2 := Lib.hid (World.grownBy.trans G1.out hg)
    clear hr hg
    go_wp2_with fail
    go_ret
    rw [SF.out]
    exact ⟨⟨_, rfl, OwnB.nil _ _⟩, R2.out, G2.out⟩
  · have hD : decide ((65536 : Int) < (v : Int)) = false := by simp; omega
    have SF := Lib.hid (show sizedS s = ((takeS s1 (v : Int)).1, (takeS s1 (v : Int)).2.1) by rw [SE.out, if_neg hv])
    have vb : (v : Int) ≤ 65536 := by omega
    go_wp2_with fail
    refine (raw_any g D s1 (v : Int) w1 R1.out).mono ?_
    rintro e w2 ⟨⟨u, rfl, ho⟩, hr, hg⟩
    have O := Lib.hid (ho.mono G1.out.size)
    have R2 := Lib.hid hr
    have G2 := Lib.hid (World.grownBy.trans G1.out hg)
    clear ho hr hg
    go_wp2_with fail
    go_ret
    rw [SF.out]
    exact ⟨⟨_, rfl, O.out⟩, R2.out, G2.out⟩
set_option maxRecDepth 100000 in
set_option maxHeartbeats 4000000 in
theorem rsz_nil (w : World) :
    Calls Try.prog 25 #[.pointer none] w fun e w' => ∃ v, e = .returned v ∧ OwnB w' w.heap.size v [] ∧ Below w.heap.size w w' := by
  go_enter Try.func25, Try.ntmps25
  go_wp2_with fail
  refine (num_nil 4 (by omega) w).mono ?_
  rintro e w ⟨rfl, rfl⟩
  go_wp2_with fail
  refine (raw_nil 0 w).mono ?_
  rintro e w1 ⟨u, rfl, ho, hb⟩
  have O := Lib.hid ho
  have B := Lib.hid hb
  clear ho hb
  go_wp2_with fail
  go_ret
  exact ⟨_, rfl, O.out, B.out⟩
set_option maxRecDepth 100000 in
set_option maxHeartbeats 1000000 in
theorem rnew_any (w : World) (A : Option Addr) (n c : Nat) (l : List UInt8) (hn : l.length = n) (hR : RdB w A l) (hb : n ≤ 140737488355328) :
    Calls Try.prog 9 #[.slice A n c] w fun e w' => ∃ g D, e = .returned (.pointer (some ⟨g, 0, none⟩)) ∧ w.heap.size ≤ g ∧ w.heap.size ≤ D ∧ Rdr g D ⟨l, 0⟩ w' ∧ Below w.heap.size w w' := by
  have HN := Lib.hid hn
  have HR := Lib.hid hR
  have HB := Lib.hid hb
  clear hn hR hb
  go_enter Try.func9, Try.ntmps9
  go_wp2_with fail
  refine (clone_any w A n c l HN.out HR.out HB.out).mono ?_
  rintro e w1 ⟨v, rfl, ho, hb⟩
  obtain ⟨A', c', rfl, hr, hl, _, hbk⟩ := ho.read
  obtain ⟨q, hq⟩ : ∃ q, q = l.length := ⟨_, rfl⟩
  rw [← hq] at hl ⊢
  have QE := Lib.hid hq
  have S := Lib.hid hb
  have RI := Lib.hid hr
  have LI := Lib.hid hl
  have BI := Lib.hid hbk
  clear ho hb hr hl hbk hq
  go_wp2_with fail
  go_ret
  obtain ⟨D, hD1, hD2⟩ : ∃ D, w.heap.size ≤ D ∧ ∀ a, A' = some a → a.block = D := by
    rcases A' with _ | a
    · exact ⟨w.heap.size, Nat.le_refl _, fun a e => by cases e⟩
    · exact ⟨a.block, (BI.out a rfl).1, fun b e => by cases e; rfl⟩
  refine ⟨_, D, rfl, S.out.size, hD1, ⟨⟨A', c', ?_, by rw [← QE.out]; exact LI.out, RI.out.keep (below_new _ _), fun a ea => ?_⟩, .inl rfl, by rw [HN.out]; exact HB.out⟩, S.out.alloc S.out.size _⟩
  · rw [← QE.out]
    exact ha_new _ _ _ rfl
  · have := (BI.out a ea).2
    exact ⟨by omega, by rw [ha_size]; omega, hD2 a ea⟩
set_option maxRecDepth 100000 in
set_option maxHeartbeats 1000000 in
theorem wrong_any (g D : Nat) (s : RSt) (w : World) (h : Rdr g D s w) :
    Calls Try.prog 12 #[.pointer (some ⟨g, 0, none⟩)] w fun e w' => e = .returned (.int .i64 (s.e : Int)) ∧ w' = w := by
  have R := Lib.hid h
  obtain ⟨A, c, h1, _⟩ := h.has
  have c1 := row_cell h1 1 rfl
  have hc := errV_cases h.ok
  clear h1 h
  rcases hc with ⟨he, hv⟩ | ⟨he, _, hv⟩ | ⟨he, _, hv⟩
  · have E := Lib.hid he
    clear hv he c1
    go_enter Try.func12, Try.ntmps12
    go_wp2_with fail
    refine (fine_any g D s w R.out).mono ?_
    rw [E.out]
    rintro e w ⟨rfl, rfl⟩
    go_wp2_with fail
    go_ret
    exact ⟨by rw [E.out]; rfl, rfl⟩
  · rw [hv] at c1
    have E := Lib.hid he
    clear hv he
    go_enter Try.func12, Try.ntmps12
    go_wp2_with fail
    refine (fine_any g D s w R.out).mono ?_
    rw [E.out]
    rintro e w1 ⟨rfl, hw⟩
    rw [hw]
    clear hw w1
    go_wp2_with fail
    refine (is_big w).mono ?_
    rintro e w1 ⟨rfl, hw⟩
    rw [hw]
    clear hw w1
    go_wp2_with fail
    go_ret
    exact ⟨by rw [E.out]; rfl, rfl⟩
  · rw [hv] at c1
    have E := Lib.hid he
    clear hv he
    go_enter Try.func12, Try.ntmps12
    go_wp2_with fail
    refine (fine_any g D s w R.out).mono ?_
    rw [E.out]
    rintro e w1 ⟨rfl, hw⟩
    rw [hw]
    clear hw w1
    go_wp2_with fail
    refine (is_end w).mono ?_
    rintro e w1 ⟨rfl, hw⟩
    rw [hw]
    clear hw w1
    go_wp2_with fail
    go_ret
    exact ⟨by rw [E.out]; rfl, rfl⟩
/-- Done. -/
def doneS (s : RSt) : Nat := if s.e = 0 ∧ 0 < s.l.length then 11 else s.e
set_option maxRecDepth 100000 in
set_option maxHeartbeats 1000000 in
theorem done_any (g D : Nat) (s : RSt) (w : World) (h : Rdr g D s w) :
    Calls Try.prog 28 #[.pointer (some ⟨g, 0, none⟩)] w fun e w' => e = .returned (.int .i64 (doneS s : Int)) ∧ w' = w := by
  have R := Lib.hid h
  have F := Lib.hid h.few
  clear h
  by_cases he : s.e = 0
  · by_cases hl : 0 < s.l.length
    · have hD : decide (0 < s.l.length) = true := by simpa using hl
      have DE := Lib.hid (show doneS s = 11 by unfold doneS; rw [if_pos ⟨he, hl⟩])
      have E := Lib.hid he
      obtain ⟨q, hq⟩ : ∃ q, q = s.l.length := ⟨_, rfl⟩
      rw [← hq] at hD
      have QE := Lib.hid hq
      clear he hl hq
      go_enter Try.func28, Try.ntmps28
      go_wp2_with fail
      refine (fine_any g D s w R.out).mono ?_
      rw [E.out]
      rintro e w1 ⟨rfl, hw⟩
      rw [hw]
      clear hw w1
      go_wp2_with fail
      refine (left_any g D s w R.out).mono ?_
      rw [← QE.out]
      rintro e w1 ⟨rfl, hw⟩
      rw [hw]
      clear hw w1
      go_wp2_with fail
      go_ret
      rw [DE.out]
      exact ⟨rfl, rfl⟩
    · have DE := Lib.hid (show doneS s = 0 by unfold doneS; rw [if_neg (fun h => hl h.2), he])
      have E := Lib.hid he
      have Q0 := Lib.hid (show s.l.length = 0 by omega)
      clear he hl
      go_enter Try.func28, Try.ntmps28
      go_wp2_with fail
      refine (fine_any g D s w R.out).mono ?_
      rw [E.out]
      rintro e w1 ⟨rfl, hw⟩
      rw [hw]
      clear hw w1
      go_wp2_with fail
      refine (left_any g D s w R.out).mono ?_
      rw [Q0.out]
      rintro e w1 ⟨rfl, hw⟩
      rw [hw]
      clear hw w1
      go_wp2_with fail
      refine (wrong_any g D s w R.out).mono ?_
      rw [E.out]
      rintro e w1 ⟨rfl, hw⟩
      rw [hw]
      clear hw w1
      go_wp2_with fail
      go_ret
      rw [DE.out]
      exact ⟨rfl, rfl⟩
  · have DE := Lib.hid (show doneS s = s.e by unfold doneS; rw [if_neg (fun h => he h.1)])
    have E := Lib.hid (show decide (s.e = 0) = false by simp [he])
    clear he
    go_enter Try.func28, Try.ntmps28
    go_wp2_with fail
    refine (fine_any g D s w R.out).mono ?_
    rw [E.out]
    rintro e w1 ⟨rfl, hw⟩
    rw [hw]
    clear hw w1
    go_wp2_with fail
    refine (wrong_any g D s w R.out).mono ?_
    rintro e w1 ⟨rfl, hw⟩
    rw [hw]
    clear hw w1
    go_wp2_with fail
    go_ret
    rw [DE.out]
    exact ⟨rfl, rfl⟩
end Go.Proofs.Ytcmpiockcndejaa
