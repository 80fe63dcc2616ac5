/- The law ChunkLengths, walked. -/
import Derived.Test.YtihllbhmnkckaaaChunkOne
import Derived.Test.YtihllbhmnkckaaaMasks
namespace Go.Proofs.Ytihllbhmnkckaaa
open Go.RowKit

theorem lengths_facts (m : Nat) (h : m ≤ 4194303) : padN m % 256 = 0 ∧ m + 4 ≤ padN m ∧ padN m < m + 260 ∧ padN m ≤ padN (m + 1) ∧ padN m ≤ (padN m + 2047) / 2048 * 2048 ∧ ((padN m + 2047) / 2048 : Int) * 2048 - 2048 < padN m ∧ padN m ≤ 4194816 := by
  have e1 : padN m = (m + 259) / 256 * 256 := by unfold padN; rw [if_pos (by omega)]
  have e2 : padN (m + 1) = (m + 260) / 256 * 256 := by unfold padN; rw [if_pos (by omega)]
  rw [e1, e2]
  omega
set_option maxRecDepth 100000 in
set_option maxHeartbeats 1000000 in
theorem chunkLengths_walk (w : World) (n : Int) (hn : -9223372036854775808 ≤ n ∧ n ≤ 9223372036854775807) : Calls Try.prog 3 #[.int .i64 n] w fun e w' => e = .returned (.bool true) ∧ Below w.heap.size w w' := by
  obtain ⟨m, hm, e1⟩ := mask_i64 n 4194303 (by omega)
  replace e1 : bits .and .i64 n 4194303 = (m : Int) := e1
  go_enter Try.func3, Try.ntmps3
  go_wp2_with fail
  clear e1
  refine (padded_any w (m : Int)).mono ?_
  rintro e w1 ⟨rfl, rfl⟩
  rw [padI_nat]
  go_wp2_with fail
  refine (padded_any w1 ((m + 1 : Nat) : Int)).mono ?_
  rintro e w2 ⟨rfl, rfl⟩
  rw [padI_nat]
  go_wp2_with fail
  refine (count_any w2 (m : Int)).mono ?_
  rintro e w3 ⟨rfl, rfl⟩
  obtain ⟨h1, h2, h3, h4, h5, h6, h7⟩ := lengths_facts m (by omega)
  have h8 := padN_le (m + 1)
  rw [padI_nat]
  obtain ⟨p, hp⟩ : ∃ p, p = padN m := ⟨_, rfl⟩
  obtain ⟨q, hq⟩ : ∃ q, q = padN (m + 1) := ⟨_, rfl⟩
  obtain ⟨c, hc⟩ : ∃ c, c = (p + 2047) / 2048 := ⟨_, rfl⟩
  rw [← hp] at h1 h2 h3 h4 h5 h6 h7 ⊢
  rw [← hq] at h4 h8 ⊢
  rw [← hc] at h5 ⊢
  have d1 : (((p : Int) % 256) == 0) = true := by simp; omega
  have d2 : decide ((m : Int) + 4 ≤ (p : Int)) = true := by simp; omega
  have d3 : decide ((p : Int) < (m : Int) + 260) = true := by simp; omega
  have d4 : decide (p ≤ q) = true := by simp; omega
  have h9 : c ≤ 3000 := by omega
  have d5 : decide ((p : Int) ≤ (c : Int) * 2048) = true := by simp; omega
  have d6 : decide (((c : Int) - 1) * 2048 < (p : Int)) = true := by simp; omega
  clear h1 h2 h3 h4 h5 h6 hp hq hc
  go_wp2_with fail
  refine (chunkOne_true w3).mono ?_
  rintro e w4 ⟨rfl, hb⟩
  go_wp2_with fail
  go_ret
  exact ⟨rfl, hb⟩
end Go.Proofs.Ytihllbhmnkckaaa
