/- chunk.up, chunk.Padded, chunk.Count, chunk.Pad. -/
import Derived.Test.YtihllbhmnkckaaaDoorSized
import Derived.Test.YtihllbhmnkckaaaDoorMake
namespace Go.Proofs.YtihllbhmnkckaaaDoor
set_option linter.unusedVariables false
set_option linter.unusedSimpArgs false
open Go.RowKit

/-- How many bytes a text of so many has, padded. -/
def padN (n : Nat) : Nat := if n ≤ 4194304 then (n + 259) / 256 * 256 else 0
theorem padN_le (n : Nat) : padN n ≤ 4194816 := by unfold padN; split <;> omega
theorem padN_ge (n : Nat) (h : n ≤ 4194304) : n + 4 ≤ padN n := by unfold padN; rw [if_pos h]; omega
/-- In how many parts it is cut. -/
def cntN (n : Nat) : Nat := (padN n + 2047) / 2048

theorem up_any (w : World) (a b : Nat) (ha : a ≤ 100000000) (hb : 0 < b ∧ b ≤ 10000) :
    Calls Tryd.prog 15 #[.int .i64 (a : Int), .int .i64 (b : Int)] w fun e w' => e = .returned (.int .i64 (((a + b - 1) / b : Nat) : Int)) ∧ w' = w := by
  have e3 : ((a : Int) + (b : Int) - 1) / (b : Int) = (((a + b - 1) / b : Nat) : Int) := by
    rw [Int.natCast_ediv]; congr 1; omega
  have e4 : (b : Int) ≠ 0 := by omega
  go_enter Tryd.func15, Tryd.ntmps15
  go_wp2_with fail
  go_ret
  exact ⟨congrArg (fun z => Ending.returned (.int .i64 z)) e3, rfl⟩
/-- 'chunk.Padded' of any number. -/
def padI (n : Int) : Nat := if n < 0 then 0 else padN n.toNat
theorem padI_nat (n : Nat) : padI (n : Int) = padN n := by unfold padI; rw [if_neg (by omega)]; simp
theorem padI_le (n : Int) : padI n ≤ 4194816 := by unfold padI; split; omega; exact padN_le _
set_option maxRecDepth 100000 in
theorem padded_any (w : World) (n : Int) :
    Calls Tryd.prog 6 #[.int .i64 n] w fun e w' => e = .returned (.int .i64 (padI n : Int)) ∧ w' = w := by
  by_cases h0 : n < 0
  · have hD : decide (n < 0) = true := by simp; omega
    have e1 : Hid (padI n = 0) := by show _ = _; unfold padI; rw [if_pos h0]
    go_enter Tryd.func6, Tryd.ntmps6
    go_wp2_with fail
    go_ret
    rw [e1.out]
    exact ⟨rfl, rfl⟩
  · have hD : decide (n < 0) = false := by simp; omega
    by_cases h1 : 4194304 < n
    · have hD2 : decide (4194304 < n) = true := by simp; omega
      have e1 : Hid (padI n = 0) := by show _ = _; unfold padI padN; rw [if_neg h0, if_neg (by omega)]
      go_enter Tryd.func6, Tryd.ntmps6
      go_wp2_with fail
      go_ret
      rw [e1.out]
      exact ⟨rfl, rfl⟩
    · have hD2 : decide (4194304 < n) = false := by simp; omega
      obtain ⟨m, hm⟩ : ∃ m : Nat, n + 4 = (m : Int) := ⟨(n + 4).toNat, by omega⟩
      have HM := Lib.hid hm
      have e1 : Hid (padI n = (m + 256 - 1) / 256 * 256) := by show _ = _; unfold padI padN; rw [if_neg h0, if_pos (by omega)]; omega
      go_enter Tryd.func6, Tryd.ntmps6
      go_wp2_with fail
      refine (up_any w m 256 (by have := HM.out; omega) (by omega)).mono ?_
      rintro e w1 ⟨rfl, rfl⟩
      obtain ⟨q, hq⟩ : ∃ q, q = (m + 256 - 1) / 256 := ⟨_, rfl⟩
      rw [← hq] at e1 ⊢
      have hq2 : q ≤ 100000 := by have := HM.out; omega
      clear hq hm
      go_wp2_with fail
      go_ret
      rw [e1.out]
      refine ⟨?_, rfl⟩
      show Ending.returned (.int .i64 _) = Ending.returned (.int .i64 _)
      congr 2
      try omega
theorem count_any (w : World) (n : Int) :
    Calls Tryd.prog 12 #[.int .i64 n] w fun e w' => e = .returned (.int .i64 (((padI n + 2047) / 2048 : Nat) : Int)) ∧ w' = w := by
  go_enter Tryd.func12, Tryd.ntmps12
  go_wp2_with fail
  refine (padded_any w n).mono ?_
  rintro e w1 ⟨rfl, rfl⟩
  obtain ⟨p, hp⟩ : ∃ p, p = padI n := ⟨_, rfl⟩
  have h2 := padI_le n
  have e3 : Hid (((p : Int) + 2047) / 2048 = (((padI n + 2047) / 2048 : Nat) : Int)) := by show _ = _; subst hp; omega
  rw [← hp] at h2 ⊢
  clear hp
  go_wp2_with fail
  refine (up_any w1 p 2048 (by omega) (by omega)).mono ?_
  rintro e w2 ⟨rfl, rfl⟩
  go_wp2_with fail
  go_ret
  exact ⟨congrArg (fun z => Ending.returned (.int .i64 z)) e3.out, rfl⟩

/-- A text, with its length ahead, and zeros behind. -/
def padL (b : List UInt8) : List UInt8 := sizedL b ++ List.replicate (padN b.length - (b.length + 4)) 0
theorem padL_length (b : List UInt8) (h : b.length ≤ 4194304) : (padL b).length = padN b.length := by
  have := padN_ge b.length h
  simp [padL, sizedL_length]; omega
set_option maxRecDepth 100000 in
set_option maxHeartbeats 1000000 in
theorem pad_any (w : World) (A : Option Addr) (n c : Nat) (l : List UInt8) (hn : l.length = n) (hR : RdB w A l) (hlt : ∀ a, A = some a → a.block < w.heap.size) (hb : n ≤ 4194304) :
    Calls Tryd.prog 5 #[.slice A n c] w fun e w' => ∃ v, e = .returned (.tuple #[v, .int .i64 0]) ∧ OwnB w' w.heap.size v (padL l) ∧ Below w.heap.size w w' := by
  have HR := Lib.hid hR
  have HN := Lib.hid hn
  have HB := Lib.hid hb
  have HL := Lib.hid hlt
  have hD : decide ((4194304 : Int) < (n : Int)) = false := by simp; omega
  have TB := Lib.hid (show ByteT Tryd.prog from ⟨Tryd.underlying22, by kernel_rfl⟩)
  clear hR hn hb hlt
  go_enter Tryd.func5, Tryd.ntmps5
  go_wp2_with fail
  refine (padded_any w n).mono ?_
  rintro e w1 ⟨rfl, rfl⟩
  rw [padI_nat]
  obtain ⟨p, hp⟩ : ∃ p, p = padN n := ⟨_, rfl⟩
  have h2 := padN_le n
  rw [← hp] at h2 ⊢
  have HP := Lib.hid hp
  clear hp
  have hmk := make_run p (by omega)
  go_wp2_with fail
  clear hmk
  obtain ⟨M, hM⟩ : ∃ M, M = w1.heap.size := ⟨_, rfl⟩
  rw [← hM]
  have HM := Lib.hid hM
  refine calls_abs (fun W => W.heap[M]? = some (.cells (W8 (List.replicate p 0)) 5 (0, 0)) ∧ RdB W A l ∧ Below w1.heap.size w1 W ∧ w1.heap.size < W.heap.size) ⟨ha_new _ _ _ hM, HR.out.below ((Below.refl w1.heap.size _).alloc (Nat.le_refl _) _) HL.out, (Below.refl _ _).alloc (Nat.le_refl _) _, by simp⟩ ?_
  rintro w2 ⟨hg2, hr2, hb2, hs2⟩
  have G2 := Lib.hid hg2
  have B2 := Lib.hid hb2
  refine (sized_any w2 none 0 0 [] A n c l rfl (RdB.nil _ _) HN.out hr2 (by have := HB.out; omega)).mono ?_
  rintro e w3 ⟨v, rfl, ho, hb3⟩
  obtain ⟨A3, c3, rfl, hr3, hl3, _, _⟩ := ho.read
  rw [List.nil_append] at ho hr3 hl3
  rw [List.nil_append]
  have R3 := Lib.hid hr3
  have G3 := Lib.hid (below_block hb3 (by omega) hg2)
  have B3 := Lib.hid (hb2.trans (hb3.mono (by omega)))
  clear ho hr3 hg2 hb2 hb3 hM G2 B2 hr2
  go_wp2_with (refine copy_list rfl TB.out (.tmp 12) (.tmp 14) rfl A3 p p (sizedL l).length c3 M 0 (List.replicate p 0) (sizedL l) 5 (some ⟨M, 0, none⟩) rfl rfl (fun _ => rfl) G3.out R3.out rfl ?c1 ?c2 ?_)
  case c1 => have := HN.out; have := HP.out; have := HB.out; have := padN_ge n (by omega); rw [sizedL_length]; omega
  case c2 => have := HN.out; have := HP.out; have := HB.out; have := padN_ge n (by omega); rw [sizedL_length]; simp; omega
  intro w4 hg4 hgr4 hs4
  have G4 := Lib.hid hg4
  have B4 := Lib.hid (B3.out.trans (grown_below hgr4 B3.out.size (fun g e => by have := HM.out; simp at e; omega)))
  clear hg4 hgr4 hs4 B3 R3 G3
  go_wp2_with fail
  go_ret2
  refine ⟨_, rfl, OwnB.ofRow ?_ (by rw [HM.out]; exact Nat.le_refl _) (by rw [HP.out, ← HN.out]; exact padL_length l (by rw [HN.out]; exact HB.out)) (by omega), B4.out⟩
  have := G4.out
  rw [padL, HN.out, ← HP.out]
  simp only [List.take_zero, List.nil_append, Nat.zero_add, List.drop_replicate, sizedL_length, HN.out] at this
  exact this
end Go.Proofs.YtihllbhmnkckaaaDoor
