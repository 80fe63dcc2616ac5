/- wire.Reader: bytes are taken out. No condition but those each theorem states. -/
import Derived.Test.YtihllbhmnkckaaaDoorRdr
import Derived.Test.YtihllbhmnkckaaaDoorPut
namespace Go.Proofs.YtihllbhmnkckaaaDoor
set_option linter.unusedVariables false
set_option linter.unusedSimpArgs false
open Go.RowKit
attribute [local go_sem ↓] Go.wp_at_zero Go.wp_at_succ

/-- So many bytes taken out: what is left, they, and whether they are. -/
def takeS (s : RSt) (n : Int) : RSt × List UInt8 × Bool :=
  if n < 1 ∨ s.e ≠ 0 then (s, [], false) else if (s.l.length : Int) < n then (⟨[], 10⟩, [], false) else (⟨s.l.drop n.toNat, 0⟩, s.l.take n.toNat, true)
theorem takeS_len (s : RSt) (n : Int) : (takeS s n).2.1.length ≤ s.l.length := by
  unfold takeS
  split
  · simp
  · split
    · simp
    · simp only [List.length_take]; omega
theorem takeS_le (s : RSt) (n : Int) (k : Nat) (h : n ≤ (k : Int)) : (takeS s n).2.1.length ≤ k := by
  unfold takeS
  split
  · simp
  · split
    · simp
    · simp only [List.length_take]; omega
theorem takeS_few (s : RSt) (n : Int) : (takeS s n).1.l.length ≤ s.l.length := by
  unfold takeS
  split
  · simp
  · split
    · simp
    · simp only [List.length_drop]; omega
/-- What a slice that was taken out is. -/
def GotB (g : Nat) (v : Value) (b : List UInt8) (W : World) : Prop := ∃ A c, v = .slice A b.length c ∧ b.length ≤ c ∧ RdB W A b ∧ ∀ a, A = some a → a.block ≠ g ∧ a.block < W.heap.size
theorem GotB.nil (g : Nat) (W : World) : GotB g (.slice none 0 0) [] W := ⟨none, 0, rfl, Nat.le_refl _, RdB.nil _ _, fun a e => by cases e⟩
set_option maxRecDepth 100000 in
set_option maxHeartbeats 4000000 in
theorem take_any' (g D : Nat) (s : RSt) (n : Int) (w : World) (h : Rdr g D s w) :
    Calls Tryd.prog 26 #[.pointer (some ⟨g, 0, none⟩), .int .i64 n] w fun e w' => (∃ v, e = .returned (.tuple #[v, .bool (takeS s n).2.2]) ∧ GotB g v (takeS s n).2.1 w') ∧ Rdr g D (takeS s n).1 w' ∧ w.grownBy w' (some g) := by
  have R := Lib.hid h
  obtain ⟨i0, hi, hz0, hz1, hz2⟩ := info_parts (show (Tryd.prog.info? 5).map (fun i => (i.zero, i.size, i.bytes)) = some (some (.int .u8 0), 1, 1) by kernel_rfl)
  have I0 := Lib.hid hi
  have I2 := Lib.hid hz1
  clear h hi hz0 hz1 hz2
  by_cases h1 : n < 1
  · have hD : decide (n < (1 : Int)) = true := by simp; omega
    have T := Lib.hid (show takeS s n = (s, [], false) by unfold takeS; rw [if_pos (.inl h1)])
    rw [T.out]
    clear h1
    go_enter Tryd.func26, Tryd.ntmps26
    go_wp2_with fail
    go_ret2
    exact ⟨⟨_, rfl, GotB.nil _ _⟩, R.out, World.grownBy.refl _ _⟩
  · have hD : decide (n < (1 : Int)) = false := by simp; omega
    by_cases he : s.e = 0
    · have E := Lib.hid he
      by_cases hl : (s.l.length : Int) < n
      · have hE : decide ((s.l.length : Int) < n) = true := by simp; omega
        have T := Lib.hid (show takeS s n = (⟨[], 10⟩, [], false) by unfold takeS; rw [if_neg (by omega), if_pos hl])
        rw [T.out]
        clear h1 he hl
        go_enter Tryd.func26, Tryd.ntmps26
        go_wp2_with fail
        refine (fine_any g D s w R.out).mono ?_
        rw [show decide (s.e = 0) = true by simp [E.out]]
        rintro e w1 ⟨rfl, hw⟩
        rw [hw]
        clear hw w1
        go_wp2_with fail
        refine (left_any g D s w R.out).mono ?_
        rintro e w1 ⟨rfl, hw⟩
        rw [hw]
        clear hw w1
        go_wp2_with fail
        refine (fail_any g D s w R.out 10 (by omega)).mono ?_
        rintro e w1 ⟨rfl, hr, hg⟩
        have R1 := Lib.hid hr
        have G1 := Lib.hid hg
        clear hr hg
        go_wp2_with fail
        go_ret2
        exact ⟨⟨_, rfl, GotB.nil _ _⟩, R1.out, G1.out⟩
      · have hE : decide ((s.l.length : Int) < n) = false := by simp; omega
        obtain ⟨m, rfl⟩ : ∃ m : Nat, n = (m : Int) := ⟨n.toNat, by omega⟩
        have T := Lib.hid (show takeS s (m : Int) = (⟨s.l.drop m, 0⟩, s.l.take m, true) by unfold takeS; rw [if_neg (by omega), if_neg hl, Int.toNat_natCast])
        have M := Lib.hid (show m ≤ s.l.length by omega)
        rw [T.out]
        clear h1 he hl
        go_enter Tryd.func26, Tryd.ntmps26
        go_wp2_with fail
        refine (fine_any g D s w R.out).mono ?_
        rw [show decide (s.e = 0) = true by simp [E.out]]
        rintro e w1 ⟨rfl, hw⟩
        rw [hw]
        clear hw w1
        go_wp2_with fail
        refine (left_any g D s w R.out).mono ?_
        rintro e w1 ⟨rfl, hw⟩
        rw [hw]
        clear hw w1
        obtain ⟨A, c, h1, h2, h3, h4⟩ := R.out.has
        obtain ⟨q, hq⟩ : ∃ q, q = s.l.length := ⟨_, rfl⟩
        rw [← hq] at h1 h2 M hE ⊢
        rw [show errV s.e = .nilIface by rw [E.out]; rfl] at h1
        have QE := Lib.hid hq.symm
        have G := Lib.hid h1
        have CC := Lib.hid h2
        have RB := Lib.hid h3
        have NB := Lib.hid h4
        have a0 := row_cell h1 0 rfl
        have f0 := row_free h1 0
        have hE2 : decide (q < m) = false := by simp; have := M.out; omega
        have hcut := cut_max (P := Tryd.prog) 22 5 Tryd.underlying22 I0.out I2.out A q c m (by have := M.out; omega)
        obtain ⟨A2, hcut2, hcutR, hcutB⟩ := cut_from (P := Tryd.prog) 22 5 Tryd.underlying22 I0.out I2.out A q c m M.out
        have HCR := Lib.hid hcutR
        have HCB := Lib.hid hcutB
        clear h1 h2 h3 h4 hq hcutR hcutB
        go_wp2_with fail
        go_ret2
        have hg1 : (w.setCell ⟨g, 0, none⟩ (.slice A2 (q - m) (c - m))).heap[g]? = some (.cells #[.slice A2 (q - m) (c - m), .nilIface] 52 (0, 0)) := by rw [heap_setCell_same _ _ _ _ _ _ G.out]; rfl
        have hgr : w.grownBy (w.setCell ⟨g, 0, none⟩ (.slice A2 (q - m) (c - m))) (some g) := grown_set (World.grownBy.refl _ _) _ _
        have off1 : ∀ k, some g = some k → Off A k := fun k e a ea => by cases e; exact (NB.out a ea).1
        refine ⟨⟨_, rfl, A, m, ?_, ?_, (RB.out.grown hgr off1).take m, fun a ea => ⟨(NB.out a ea).1, Nat.lt_of_lt_of_le (NB.out a ea).2.1 hgr.size⟩⟩, ⟨⟨A2, c - m, ?_, ?_, ?_, fun a ea => ?_⟩, .inl rfl, ?_⟩, hgr⟩
        · show Value.slice A m m = _
          rw [List.length_take, QE.out, Nat.min_eq_left M.out]
        · rw [List.length_take, QE.out]; omega
        · rw [hg1, List.length_drop, QE.out]; rfl
        · rw [List.length_drop, QE.out]; have := CC.out; omega
        · have := HCR.out w s.l QE.out CC.out RB.out
          exact this.grown hgr (fun k e a ea => by
            cases e
            obtain ⟨a0, ea0, hb⟩ := HCB.out a ea
            rw [hb]
            exact (NB.out a0 ea0).1)
        · obtain ⟨a0, ea0, hb⟩ := HCB.out a ea
          rw [hb]
          exact ⟨(NB.out a0 ea0).1, Nat.lt_of_lt_of_le (NB.out a0 ea0).2.1 hgr.size, (NB.out a0 ea0).2.2⟩
        · have := R.out.few
          simp only [List.length_drop]
          omega
    · have T := Lib.hid (show takeS s n = (s, [], false) by unfold takeS; rw [if_pos (.inr he)])
      have E := Lib.hid (show decide (s.e = 0) = false by simp [he])
      rw [T.out]
      clear h1 he
      go_enter Tryd.func26, Tryd.ntmps26
      go_wp2_with fail
      refine (fine_any g D s w R.out).mono ?_
      rw [E.out]
      rintro e w1 ⟨rfl, hw⟩
      rw [hw]
      clear hw w1
      go_wp2_with fail
      go_ret2
      exact ⟨⟨_, rfl, GotB.nil _ _⟩, R.out, World.grownBy.refl _ _⟩
set_option maxRecDepth 100000 in
set_option maxHeartbeats 4000000 in
theorem take_nil (n : Int) (w : World) :
    Calls Tryd.prog 26 #[.pointer none, .int .i64 n] w fun e w' => e = .returned (.tuple #[.slice none 0 0, .bool false]) ∧ w' = w := by
  by_cases h1 : n < 1
  · have hD : decide (n < (1 : Int)) = true := by simp; omega
    go_enter Tryd.func26, Tryd.ntmps26
    go_wp2_with fail
    go_ret2
    exact ⟨rfl, rfl⟩
  · have hD : decide (n < (1 : Int)) = false := by simp; omega
    have hE : decide ((0 : Int) < n) = true := by simp; omega
    go_enter Tryd.func26, Tryd.ntmps26
    go_wp2_with fail
    refine (fine_nil w).mono ?_
    rintro e w ⟨rfl, rfl⟩
    go_wp2_with fail
    refine (left_nil w).mono ?_
    rintro e w ⟨rfl, rfl⟩
    go_wp2_with fail
    refine (fail_nil w 10).mono ?_
    rintro e w ⟨rfl, rfl⟩
    go_wp2_with fail
    go_ret2
    exact ⟨rfl, rfl⟩
end Go.Proofs.YtihllbhmnkckaaaDoor
