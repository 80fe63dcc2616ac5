/- wire.Put: the lowest bytes of a number behind bytes, the highest first. -/
import Derived.Test.YtihllbhmnkckaaaDoorClone
namespace Go.Proofs.YtihllbhmnkckaaaDoor
set_option linter.unusedVariables false
set_option linter.unusedSimpArgs false
open Go.RowKit
attribute [local go_sem ↓] Go.wp_at_zero Go.wp_at_succ

/-- So many bytes of a number, the highest first. -/
def beL : Nat → Nat → List UInt8
  | 0, _ => []
  | k + 1, x => UInt8.ofNat (x / 2 ^ (8 * k)) :: beL k x
theorem beL_length (k x : Nat) : (beL k x).length = k := by
  induction k with
  | zero => rfl
  | succ k ih => simp [beL, ih]
/-- How many bytes are laid. -/
def putN (n : Int) : Nat := (min n 8).toNat
theorem putN_ex (k : Int) (h : -100 ≤ k ∧ k ≤ 100) : ∃ m : Int, (if (8 : Int) < k then (8 : Int) else k) = m ∧ IntKind.i64.wrap (m - 1) = m - 1 ∧ Hid (m = (putN k : Int) ∨ (putN k = 0 ∧ m ≤ 0)) ∧ -100 ≤ m ∧ m ≤ 8 := by
  refine ⟨min k 8, ?_, ?_, ?_, by omega, by omega⟩
  · split <;> omega
  · rw [IntKind.wrap_i64]; omega
  · show _ ∨ _
    unfold putN
    omega
theorem put_byte_ex (x : UInt64) (r : Nat) : ∃ z : UInt8, Hid (z = UInt8.ofNat (x.toNat / 2 ^ (8 * r))) ∧ IntKind.u8.wrap ((x.toNat : Int) / 2 ^ (8 * r)) = (z.toNat : Int) := by
  refine ⟨_, rfl, ?_⟩
  rw [IntKind.wrap_u8]
  have : ((x.toNat : Int) / 2 ^ (8 * r)) = ((x.toNat / 2 ^ (8 * r) : Nat) : Int) := by
    rw [Int.natCast_ediv, Int.natCast_pow]; rfl
  rw [this]
  simp

set_option maxRecDepth 100000 in
set_option maxHeartbeats 1000000 in
theorem put_any (w : World) (A : Option Addr) (n c : Nat) (l : List UInt8) (x : UInt64) (k : Int) (hk : -100 ≤ k ∧ k ≤ 100) (hn : l.length = n) (hR : RdB w A l) (hb : n ≤ 140737488355320) :
    Calls Tryd.prog 24 #[.slice A n c, .int .u64 (x.toNat : Int), .int .i64 k] w fun e w' => ∃ v, e = .returned v ∧ OwnB w' w.heap.size v (l ++ beL (putN k) x.toNat) ∧ Below w.heap.size w w' := by
  have TB := Lib.hid (show ByteT Tryd.prog from ⟨Tryd.underlying22, by kernel_rfl⟩)
  have HR := Lib.hid hR
  have HN := Lib.hid hn
  have HB := Lib.hid hb
  clear hR hn hb
  go_enter Tryd.func24, Tryd.ntmps24
  go_wp2_with fail
  refine (clone_any w A n c l HN.out HR.out (by have := HB.out; omega)).mono ?_
  rintro e w1 ⟨v, rfl, ho, hb1⟩
  have O1 := Lib.hid ho
  have B1 := Lib.hid hb1
  clear ho hb1 HR
  obtain ⟨m, hm, hm1, hm2, hm3, hm4⟩ := putN_ex k hk
  have e1 : wrap64 (m - 1) = m - 1 := by unfold wrap64; omega
  go_wp2_with fail
  clear hm hm1 e1
  go_loopw [7, 8] (fun v i wr => ∃ (r : Nat) (pre : List UInt8), r ≤ 8 ∧ pre.length + r ≤ n + 8 ∧ (i = .int .i64 ((r : Int) - 1) ∨ (r = 0 ∧ ∃ i' : Int, i = .int .i64 i' ∧ i' < 0)) ∧ pre ++ beL r x.toNat = l ++ beL (putN k) x.toNat ∧ OwnB wr w.heap.size v pre ∧ Below w.heap.size w wr) (fun _ i _ => (intOf i + 1).toNat)
  case atStart =>
    refine ⟨putN k, l, by unfold putN; omega, by have := HN.out; unfold putN; omega, ?_, rfl, O1.out, B1.out⟩
    rcases hm2.out with h | ⟨h0, h1⟩
    · exact .inl (by rw [h])
    · exact .inr ⟨h0, _, rfl, by omega⟩
  case round =>
    obtain ⟨r, pre, hr8, hrl, hi, hpre, ho, hb⟩ := hrel
    have R8 := Lib.hid hr8
    have RL := Lib.hid hrl
    have PRE := Lib.hid hpre
    have O2 := Lib.hid ho
    have B2 := Lib.hid hb
    clear hr8 hrl hpre ho hb O1 B1 w1
    rcases r with _ | r
    · obtain ⟨i, rfl, hi0⟩ : ∃ i : Int, u8 = .int .i64 i ∧ i < 0 := by
        rcases hi with h | ⟨_, i', h, h1⟩
        · exact ⟨_, h, by simp⟩
        · exact ⟨i', h, h1⟩
      have hD : decide ((0 : Int) ≤ i) = false := by simp; omega
      clear hi
      go_wp2_with fail
      go_ret
      refine ⟨_, rfl, ?_, B2.out⟩
      have := PRE.out
      rw [beL, List.append_nil] at this
      rw [← this]
      exact O2.out
    · obtain rfl : u8 = .int .i64 (r : Int) := by
        rcases hi with h | ⟨h, _⟩
        · rw [h]; congr 1; omega
        · omega
      clear hi
      have hD : decide ((0 : Int) ≤ (r : Int)) = true := by simp
      have e2 : 8 * (r : Int) ≤ 64 := by have := R8.out; omega
      have e4 : (8 * (r : Int)).toNat = 8 * r := by omega
      obtain ⟨z, hz, e3⟩ := put_byte_ex x r
      go_wp2_with (refine app_list rfl TB.out (.tmp 18) (.tmp 24) rfl w.heap.size u7 pre [z] (some ⟨wr.heap.size, 0, none⟩) 1 1 rfl rfl rfl (O2.out.alloc _) (RdB.one (row_cell (fr := (0, 0)) (ha_new wr _ _ rfl) 0 rfl)) ?c1 ?c2 ?_)
      case c1 => have := B2.out.size; rw [ha_size]; omega
      case c2 => have := RL.out; have := HB.out; omega
      intro v1 w1 ho hg hv
      have O3 := Lib.hid ho
      have B3 := Lib.hid (show Below w.heap.size w w1 from (B2.out.alloc B2.out.size _).trans (grown_below hg (by rw [ha_size]; have := B2.out.size; omega) (fun g e => (O2.out.lt g e).1)))
      clear ho hg hv O2 B2
      go_wp2_with fail
      go_roundw
      case rel =>
        refine ⟨r, pre ++ [z], by have := R8.out; omega, by have := RL.out; simp; omega, .inl (by go_num), ?_, O3.out, B3.out⟩
        rw [← PRE.out, beL, ← hz.out, List.append_assoc]
        rfl
      case measure => simp [intOf] <;> omega
end Go.Proofs.YtihllbhmnkckaaaDoor
