/- The document's wire.Put and wire.Sized, as texts. No condition but those each theorem states. -/
import Derived.Test.YtihllbhmnkckaaaDoorPut
import Derived.Test.YtihllbhmnkckaaaDoorOps
import Derived.Test.YtihllbhmnkckaaaDoorGen
namespace Go.Proofs.YtihllbhmnkckaaaDoor
set_option linter.unusedVariables false
set_option linter.unusedSimpArgs false
open Go.RowKit
attribute [local go_sem ↓] Go.wp_at_zero Go.wp_at_succ

theorem byte_of (y : Nat) : ∃ z : UInt8, Hid (z = UInt8.ofNat y) ∧ IntKind.u8.wrap (y : Int) = (z.toNat : Int) := by
  refine ⟨_, rfl, ?_⟩
  rw [IntKind.wrap_u8]
  simp
set_option maxRecDepth 100000 in
set_option maxHeartbeats 1000000 in
theorem rput_any (b : List UInt8) (x : UInt64) (k : Int) (hk : -9223372036854775808 ≤ k ∧ k ≤ 9223372036854775807) (hb : b.length ≤ 4611686018427387000) (w : World) :
    Calls Tryd.prog 36 #[.string (strB b), .int .u64 (x.toNat : Int), .int .i64 k] w fun e w' => e = .returned (.string (strB (b ++ beL (putN k) x.toNat))) ∧ Below w.heap.size w w' := by
  have HB := Lib.hid hb
  clear hb
  go_enter Tryd.func36, Tryd.ntmps36
  by_cases h1 : k < 1
  · have hD : decide (k < (1 : Int)) = true := by simp; omega
    have P0 := Lib.hid (show putN k = 0 by unfold putN; omega)
    go_wp2_with fail
    go_ret
    exact ⟨by rw [P0.out, beL, List.append_nil]; rfl, Below.refl _ _⟩
  · have hD : decide (k < (1 : Int)) = false := by simp; omega
    obtain ⟨m, hm⟩ : ∃ m, m = putN k := ⟨_, rfl⟩
    rw [← hm]
    have M8 := Lib.hid (show m ≤ 8 by rw [hm]; unfold putN; omega)
    go_upto_if 13 with fail
    go_cut [2] (fun u wx => u = .int .i64 (m : Int) ∧ wx = w)
    case first =>
      by_cases h8 : 8 < k
      · have hE : decide ((8 : Int) < k) = true := by simp; omega
        go_wp2_with fail
        go_meet
        exact ⟨by rw [hm]; unfold putN; congr 1; omega, rfl⟩
      · have hE : decide ((8 : Int) < k) = false := by simp; omega
        go_wp2_with fail
        go_meet
        exact ⟨by rw [hm]; unfold putN; congr 1; omega, rfl⟩
    case rest =>
    obtain ⟨rfl, hwx⟩ := hcut
    rw [hwx]
    clear hwx hm h1 hD hk
    have mb : (m : Int) ≤ 8 := by have := M8.out; omega
    go_wp2_with fail
    go_loopw [1, 7, 8] (fun v s i wr => ∃ j : Nat, j ≤ m ∧ v = .int .u64 ((x.toNat / 2 ^ (8 * j) : Nat) : Int) ∧ s = .string (strB (beL j x.toNat)) ∧ i = .int .i64 (j : Int) ∧ Below w.heap.size w wr) (fun _ _ i _ => 8 - (intOf i).toNat)
    case atStart => exact ⟨0, by omega, by simp, rfl, rfl, Below.refl _ _⟩
    case round =>
      obtain ⟨j, hj, rfl, rfl, rfl, hbel⟩ := hrel
      have J := Lib.hid hj
      have S := Lib.hid hbel
      obtain ⟨y, hy⟩ : ∃ y, y = x.toNat / 2 ^ (8 * j) := ⟨_, rfl⟩
      rw [← hy]
      have Y := Lib.hid hy
      have Y64 := Lib.hid (show y < 18446744073709551616 by have := x.toNat_lt; rw [hy]; exact Nat.lt_of_le_of_lt (Nat.div_le_self _ _) (by omega))
      have L := Lib.hid (beL_length j x.toNat)
      obtain ⟨s, hs⟩ : ∃ s, s = beL j x.toNat := ⟨_, rfl⟩
      rw [← hs] at L ⊢
      have SE := Lib.hid hs
      clear hy hbel hs
      by_cases hlt : j < m
      · have hD : decide ((j : Int) < (m : Int)) = true := by simp; omega
        obtain ⟨z, hz, e1⟩ := byte_of y
        have yb : (y : Int) < 18446744073709551616 := by have := Y64.out; omega
        have HBZ := Lib.hid (S.out.alloc S.out.size (.cells #[.int .u8 (z.toNat : Int)] 5))
        go_wp2_with (first
          | (refine wpList_val rfl (run_str 22 9 (.tmp 21) rfl Tryd.underlying22 Tryd.underlying5 Tryd.underlying9 (RdB.one (y := z) (row_cell (fr := (0, 0)) (ha_new _ _ _ rfl) 0 rfl)) 1 1 rfl rfl) ?_)
          | (refine wpList_val rfl (run_cat 9 _ (.tmp 22) (.tmp 23) rfl [z] s rfl rfl (by have := L.out; have := J.out; have := M8.out; simp; omega) _) ?_))
        go_roundw
        case rel =>
          refine ⟨j + 1, by omega, ?_, by rw [beL, SE.out, hz.out, Y.out], by go_num, HBZ.out⟩
          congr 1
          have e : x.toNat / 2 ^ (8 * (j + 1)) = y / 256 := by rw [Y.out, Nat.div_div_eq_div_mul, show 8 * (j + 1) = 8 * j + 8 by omega, Nat.pow_add]
          rw [e]
          first | omega | go_num
        case measure => have := M8.out; simp [intOf]; omega
      · have hD : decide ((j : Int) < (m : Int)) = false := by simp; omega
        have JE := Lib.hid (show j = m by have := J.out; omega)
        go_wp2_with (refine wpList_val rfl (run_cat 9 _ (.tmp 27) (.tmp 28) rfl b s rfl rfl (by have := L.out; have := J.out; have := M8.out; have := HB.out; omega) _) ?_)
        go_ret
        exact ⟨by rw [SE.out, JE.out]; rfl, S.out⟩
end Go.Proofs.YtihllbhmnkckaaaDoor
