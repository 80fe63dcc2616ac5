/- wire.Reader: numbers and bytes are read. No condition but those each theorem states. -/
import Derived.Test.YtihllbhmnkckaaaDoorRdrTake
namespace Go.Proofs.YtihllbhmnkckaaaDoor
set_option linter.unusedVariables false
set_option linter.unusedSimpArgs false
open Go.RowKit
attribute [local go_sem ↓] Go.wp_at_zero Go.wp_at_succ

/-- The number of bytes, the highest first. -/
def beVal (b : List UInt8) : Nat := b.foldl (fun v c => v * 256 + c.toNat) 0
theorem beVal_snoc (b : List UInt8) (c : UInt8) : beVal (b ++ [c]) = beVal b * 256 + c.toNat := by simp [beVal]
theorem beVal_lt (b : List UInt8) : beVal b < 256 ^ b.length := by
  have key : ∀ (b : List UInt8) (v : Nat), b.foldl (fun v c => v * 256 + c.toNat) v < (v + 1) * 256 ^ b.length := by
    intro b
    induction b with
    | nil => intro v; simp
    | cons c b ih =>
      intro v
      have h1 := ih (v * 256 + c.toNat)
      have h2 := c.toNat_lt
      rw [List.foldl_cons, List.length_cons, Nat.pow_succ]
      refine Nat.lt_of_lt_of_le h1 ?_
      rw [Nat.mul_comm (256 ^ b.length) 256, ← Nat.mul_assoc]
      exact Nat.mul_le_mul_right _ (by omega)
  have := key b 0
  simpa [beVal] using this
theorem beVal_take (b : List UInt8) (j : Nat) (h : j < b.length) : beVal (b.take (j + 1)) = beVal (b.take j) * 256 + (b.getD j 0).toNat := by
  rw [List.take_add_one, List.getElem?_eq_getElem h]
  have e : b.getD j 0 = b[j] := by simp [List.getD_eq_getElem?_getD, h]
  rw [e, ← beVal_snoc]
  rfl
def numS (s : RSt) (n : Int) : RSt × Nat := ((takeS s (min n 8)).1, beVal (takeS s (min n 8)).2.1)
theorem shl_or (v : Nat) (x : UInt8) (hv : v < 72057594037927936) : ∃ z : Nat, Hid (z = v * 256 + x.toNat) ∧ bits .or .u64 ((v : Int) * 256) (x.toNat : Int) = (z : Int) := by
  refine ⟨_, rfl, ?_⟩
  have hx := x.toNat_lt
  have e : ((v : Int) * 256) = ((v * 256 : Nat) : Int) := by omega
  rw [e, u64_or_nat _ _ (by omega) (by omega)]
  congr 1
  rw [show v * 256 = v <<< 8 by rw [Nat.shiftLeft_eq], ← Nat.shiftLeft_add_eq_or_of_lt (by omega)]
set_option maxRecDepth 100000 in
set_option maxHeartbeats 4000000 in
theorem num_any (g D : Nat) (s : RSt) (n : Int) (hn : -9223372036854775808 ≤ n ∧ n ≤ 9223372036854775807) (w : World) (h : Rdr g D s w) :
    Calls Tryd.prog 17 #[.pointer (some ⟨g, 0, none⟩), .int .i64 n] w fun e w' => e = .returned (.int .u64 ((numS s n).2 : Int)) ∧ Rdr g D (numS s n).1 w' ∧ w.grownBy w' (some g) := by
  have R := Lib.hid h
  obtain ⟨m, hm⟩ : ∃ m : Int, m = min n 8 := ⟨_, rfl⟩
  have e1 : (if (8 : Int) < n then (8 : Int) else n) = m := by rw [hm]; split <;> omega
  have M8 := Lib.hid (show m ≤ 8 by omega)
  have HM := Lib.hid hm
  clear h hm
  go_enter Tryd.func17, Tryd.ntmps17
  go_wp2_with fail
  refine (take_any' g D s m w R.out).mono ?_
  have B8 := Lib.hid (takeS_le s m 8 M8.out)
  obtain ⟨t, ht⟩ : ∃ t, t = takeS s m := ⟨_, rfl⟩
  rw [← ht] at B8 ⊢
  have NE := Lib.hid (show numS s n = (t.1, beVal t.2.1) by rw [ht, HM.out]; rfl)
  obtain ⟨s', b, ok⟩ := t
  simp only
  rintro e w1 ⟨⟨v, rfl, A, c, rfl, hbc, hRb, hbo⟩, hr, hg⟩
  obtain ⟨q, hq⟩ : ∃ q, q = b.length := ⟨_, rfl⟩
  have B8 := Lib.hid (show b.length ≤ 8 from B8.out)
  rw [← hq] at B8 ⊢
  have QE := Lib.hid hq.symm
  have qb : (q : Int) ≤ 8 := by have := B8.out; omega
  have R1 := Lib.hid hr
  have G1 := Lib.hid hg
  have RB := Lib.hid hRb
  clear e1 ht hbc hRb hbo hr hg hq
  have SN := Lib.hid (show (numS s n).1 = s' ∧ (numS s n).2 = beVal b from by rw [NE.out]; exact ⟨rfl, rfl⟩)
  go_wp2_with fail
  go_loopw [7, 9, 19] (fun u _ i wr => ∃ j : Nat, j ≤ q ∧ i = .int .i64 (j : Int) ∧ u = .int .u64 ((beVal (b.take j) : Nat) : Int) ∧ wr = w1) (fun _ _ i _ => q - (intOf i).toNat)
  case atStart => exact ⟨0, by omega, rfl, rfl, rfl⟩
  case round =>
    obtain ⟨j, hj, rfl, rfl, hwr⟩ := hrel
    rw [hwr]
    clear hwr wr
    have J := Lib.hid hj
    obtain ⟨y, hy⟩ : ∃ y, y = beVal (b.take j) := ⟨_, rfl⟩
    rw [← hy]
    have Y := Lib.hid hy
    by_cases hlt : j < q
    · have hD : decide ((j : Int) < (q : Int)) = true := by simp; omega
      obtain ⟨bb, o, rfl, x, hx, a1⟩ := RB.out.get j (by rw [QE.out]; exact hlt)
      have Y56 := Lib.hid (show y < 72057594037927936 by
        have h1 := beVal_lt (b.take j)
        have h2 : (b.take j).length ≤ 7 := by rw [List.length_take]; have := B8.out; omega
        have h3 : 256 ^ (b.take j).length ≤ 256 ^ 7 := Nat.pow_le_pow_right (by omega) h2
        omega)
      obtain ⟨z, hz, e2⟩ := shl_or y x Y56.out
      have e3 : IntKind.u64.wrap (x.toNat : Int) = (x.toNat : Int) := by have := x.toNat_lt; rw [IntKind.wrap_u64]; omega
      have yb : (y : Int) < 72057594037927936 := by have := Y56.out; omega
      have l1 : (j : Int) < (q : Int) := by omega
      clear hy
      go_wp2_with fail
      go_roundw
      case rel => exact ⟨j + 1, by omega, by go_num, by rw [hz.out, Y.out, hx.out, beVal_take b j (by rw [QE.out]; exact hlt)], trivial⟩
      case measure => simp [intOf]; omega
    · have hD : decide ((j : Int) < (q : Int)) = false := by simp; omega
      have JE := Lib.hid (show y = beVal b by rw [Y.out, List.take_of_length_le (by rw [QE.out]; omega)])
      go_wp2_with fail
      go_ret
      rw [SN.out.1, SN.out.2, ← JE.out]
      exact ⟨rfl, R1.out, G1.out⟩
set_option maxRecDepth 100000 in
set_option maxHeartbeats 4000000 in
theorem num_nil (n : Int) (hn : -9223372036854775808 ≤ n ∧ n ≤ 9223372036854775807) (w : World) :
    Calls Tryd.prog 17 #[.pointer none, .int .i64 n] w fun e w' => e = .returned (.int .u64 0) ∧ w' = w := by
  obtain ⟨m, hm⟩ : ∃ m : Int, m = min n 8 := ⟨_, rfl⟩
  have e1 : (if (8 : Int) < n then (8 : Int) else n) = m := by rw [hm]; split <;> omega
  clear hm
  go_enter Tryd.func17, Tryd.ntmps17
  go_wp2_with fail
  refine (take_nil m w).mono ?_
  rintro e w ⟨rfl, rfl⟩
  go_wp2_with fail
  go_loopw [7, 9, 19] (fun u _ i wr => u = .int .u64 0 ∧ i = .int .i64 0 ∧ wr = w) (fun _ _ _ _ => 0)
  case atStart => exact ⟨rfl, rfl, rfl⟩
  case round =>
    obtain ⟨rfl, rfl, hwr⟩ := hrel
    rw [hwr]
    go_wp2_with fail
    go_ret
    exact ⟨rfl, rfl⟩
set_option maxRecDepth 100000 in
set_option maxHeartbeats 4000000 in
theorem raw_any (g D : Nat) (s : RSt) (n : Int) (w : World) (h : Rdr g D s w) :
    Calls Tryd.prog 18 #[.pointer (some ⟨g, 0, none⟩), .int .i64 n] w fun e w' => (∃ v, e = .returned v ∧ OwnB w' w.heap.size v (takeS s n).2.1) ∧ Rdr g D (takeS s n).1 w' ∧ w.grownBy w' (some g) := by
  have R := Lib.hid h
  clear h
  go_enter Tryd.func18, Tryd.ntmps18
  go_wp2_with fail
  refine (take_any' g D s n w R.out).mono ?_
  have BL := Lib.hid (show (takeS s n).2.1.length ≤ 140737488355328 from Nat.le_trans (takeS_len s n) R.out.few)
  obtain ⟨t, ht⟩ : ∃ t, t = takeS s n := ⟨_, rfl⟩
  rw [← ht] at BL ⊢
  have TE := Lib.hid ht
  obtain ⟨s', b, ok⟩ := t
  simp only
  rintro e w1 ⟨⟨v, rfl, A, c, rfl, hbc, hRb, hbo⟩, hr, hg⟩
  have BL := Lib.hid (show b.length ≤ 140737488355328 from BL.out)
  obtain ⟨q, hq⟩ : ∃ q, q = b.length := ⟨_, rfl⟩
  rw [← hq] at BL ⊢
  have QE := Lib.hid hq.symm
  have R1 := Lib.hid hr
  have G1 := Lib.hid hg
  have RB := Lib.hid hRb
  clear ht hbc hRb hbo hr hg hq
  go_wp2_with fail
  refine (clone_any w1 A q c b QE.out RB.out BL.out).mono ?_
  rintro e w2 ⟨v, rfl, ho, hb⟩
  have O := Lib.hid (ho.mono G1.out.size)
  have R2 := Lib.hid (R1.out.keep hb)
  have G2 := Lib.hid (World.grownBy.trans G1.out (grown_of_below hb).mono_none)
  clear ho hb
  go_wp2_with fail
  go_ret
  rw [← TE.out]
  exact ⟨⟨_, rfl, O.out⟩, R2.out, G2.out⟩
set_option maxRecDepth 100000 in
set_option maxHeartbeats 4000000 in
theorem raw_nil (n : Int) (w : World) :
    Calls Tryd.prog 18 #[.pointer none, .int .i64 n] w fun e w' => ∃ v, e = .returned v ∧ OwnB w' w.heap.size v [] ∧ Below w.heap.size w w' := by
  go_enter Tryd.func18, Tryd.ntmps18
  go_wp2_with fail
  refine (take_nil n w).mono ?_
  rintro e w ⟨rfl, rfl⟩
  go_wp2_with fail
  refine (clone_any w none 0 0 [] rfl (RdB.nil _ _) (by omega)).mono ?_
  rintro e w2 ⟨v, rfl, ho, hb⟩
  go_wp2_with fail
  go_ret
  exact ⟨_, rfl, ho, hb⟩
end Go.Proofs.YtihllbhmnkckaaaDoor
