/- The document's text, and what stands behind it. -/
import Derived.Test.YtphpcegifdiofaaRefShaR
import Derived.Test.YtphpcegifdiofaaShaSum
namespace Go.Proofs.Ytphpcegifdiofaa
set_option linter.unusedVariables false
set_option linter.unusedSimpArgs false
open Go.RowKit
attribute [local go_sem ↓] Go.wp_at_zero Go.wp_at_succ

def padL (l : List UInt8) : List UInt8 := l ++ tailL l.length
theorem padL_length (l : List UInt8) (h : l.length ≤ 3000) : (padL l).length % 64 = 0 ∧ (padL l).length ≤ 3200 := by
  simp only [padL, tailL, List.length_append, List.length_cons, List.length_replicate, beLs_length, zerosN]
  omega
theorem beLs_get : ∀ (k x i : Nat), i < k → (beLs k x)[i]? = some (UInt8.ofNat (x / 2 ^ (8 * (k - 1 - i))))
  | 0, _, _, h => by omega
  | k + 1, x, 0, _ => by simp [beLs]
  | k + 1, x, i + 1, h => by
    rw [beLs, List.getElem?_cons_succ, beLs_get k x i (by omega), show k + 1 - 1 - (i + 1) = k - 1 - i by omega]
theorem zero8L_snoc (l : List UInt8) (j : Nat) : (l ++ 0x80 :: List.replicate j 0) ++ [0] = l ++ 0x80 :: List.replicate (j + 1) 0 := by
  rw [List.replicate_succ']
  simp
def sizeOfStr : Value → Nat
  | .string s => s.size
  | _ => 0
set_option maxRecDepth 100000 in
set_option maxHeartbeats 2000000 in
theorem rpadded_any (l : List UInt8) (n : Nat) (hn : l.length = n) (h : n ≤ 3000) (w : World) :
    Calls Try.prog 22 #[.string (strB l)] w fun e w' => e = .returned (.string (strB (padL l))) ∧ Below w.heap.size w w' := by
  have SZ := strB_size l
  rw [hn] at SZ
  have HN := Lib.hid hn
  have H := Lib.hid h
  have PE := Lib.hid (show padL l = (l ++ 0x80 :: List.replicate (zerosN n) 0) ++ beLs 8 (n * 8) by
    rw [padL, tailL, hn, Nat.mod_eq_of_lt (show n * 8 < 18446744073709551616 by omega)]; simp)
  clear hn
  go_enter Try.func22, Try.ntmps22
  go_upto_region 2 with fail
  clear SZ
  go_wp2_with (refine wpList_val rfl (run_cat 9 _ (.tmp 9) (.const (.string { data := #[128] })) rfl l [128] rfl rfl (by have := HN.out; have := H.out; simp; omega) _) ?_)
  go_loopw [0] (fun s wr => ∃ j : Nat, j ≤ zerosN n ∧ s = .string (strB (l ++ 0x80 :: List.replicate j 0)) ∧ wr = w) (fun s _ => 4000 - sizeOfStr s)
  case atStart => exact ⟨0, by omega, rfl, rfl⟩
  case round =>
    obtain ⟨j, hj, rfl, rfl⟩ := hrel
    have J := Lib.hid hj
    obtain ⟨s0, hs⟩ : ∃ s, s = l ++ 0x80 :: List.replicate j 0 := ⟨_, rfl⟩
    obtain ⟨m, hm⟩ : ∃ m, m = s0.length := ⟨_, rfl⟩
    have SS := strB_size s0
    rw [← hm] at SS
    rw [← hs]
    have M := Lib.hid (show m = n + 1 + j by rw [hm, hs]; have := HN.out; simp; omega)
    have M2 := Lib.hid (show m ≤ 3200 by have := M.out; have := H.out; unfold zerosN at hj; omega)
    have ME := Lib.hid hm
    have SE := Lib.hid hs
    clear hs hm hj
    by_cases h56 : m % 64 = 56
    · have hE : (((m : Nat) : Int) % 64 == 56) = true := by simp; omega
      have hE2 : (((m : Nat) : Int) % 64 != 56) = false := by simp; omega
      have JZ := Lib.hid (show j = zerosN n by have := J.out; have := M.out; unfold zerosN at *; omega)
      obtain ⟨x, hx⟩ : ∃ x, x = n * 8 := ⟨_, rfl⟩
      have X := Lib.hid hx
      have e8 : (n : Int) * 8 = (x : Int) := by omega
      go_wp2_with fail
      rw [e8]
      clear e8 hE hE2 SS h56 hx
      go_loopw [0, 4] (fun s i wr' => ∃ t : Nat, t ≤ 8 ∧ s = .string (strB (s0 ++ (beLs 8 x).take t)) ∧ i = .int .i64 (t : Int) ∧ Below wr.heap.size wr wr') (fun _ i _ => 8 - (intOf i).toNat)
      case atStart => exact ⟨0, by omega, by simp, rfl, Below.refl _ _⟩
      case round =>
        obtain ⟨t, ht, rfl, rfl, hb⟩ := hrel
        by_cases h8 : t < 8
        · have hD : decide ((t : Int) < 8) = true := by simp; omega
          have T8 := Lib.hid h8
          obtain ⟨r, hr⟩ : ∃ r, r = 7 - t := ⟨_, rfl⟩
          have R := Lib.hid hr
          have e1 : (56 - 8 * (t : Int)).toNat = 8 * r := by omega
          have e2 : 8 * (r : Int) ≤ 56 := by omega
          have e3 : 56 - 8 * (t : Int) = 8 * (r : Int) := by omega
          have XB := Lib.hid (show x < 18446744073709551616 by have := X.out; have := H.out; omega)
          obtain ⟨z, hz, e4⟩ := be_byte_ex x r XB.out
          clear hr h8 ht
          have HL := Lib.hid (show (s0 ++ (beLs 8 x).take t).length + 1 ≤ 4611686018427387903 by have := M2.out; have := ME.out; rw [List.length_append, List.length_take, beLs_length]; omega)
          have HB := Lib.hid (hb.alloc hb.size (.cells #[.int .u8 (z.toNat : Int)] 5))
          clear hb
          go_wp2_with (first
            | (refine wpList_val rfl (run_str 22 9 (.tmp 29) rfl Try.underlying22 Try.underlying5 Try.underlying9 (RdB.one (y := z) (row_cell (fr := (0, 0)) (ha_new _ _ _ rfl) 0 rfl)) 1 1 rfl rfl) ?_)
            | (refine wpList_val rfl (run_cat 9 _ (.tmp 21) (.tmp 30) rfl (s0 ++ (beLs 8 x).take t) [z] rfl rfl HL.out _) ?_))
          go_roundw
          case rel =>
            refine ⟨t + 1, by have := T8.out; omega, ?_, by go_num, HB.out⟩
            congr 2
            rw [List.take_add_one, beLs_get 8 x t T8.out, hz.out, R.out]
            rfl
          case measure => have := T8.out; simp [intOf]; omega
        · have hD : decide ((t : Int) < 8) = false := by simp; omega
          have T8 : Hid (t = 8) := show t = 8 by omega
          go_wp2_with fail
          go_ret
          refine ⟨?_, hb⟩
          show Ending.returned (.string (strB (s0 ++ (beLs 8 x).take t))) = _
          rw [T8.out, List.take_of_length_le (by rw [beLs_length]; exact Nat.le_refl _), PE.out, SE.out, X.out, JZ.out]
    · have hE : (((m : Nat) : Int) % 64 == 56) = false := by simp; omega
      have hE2 : (((m : Nat) : Int) % 64 != 56) = true := by simp; omega
      have JZ := Lib.hid (show j < zerosN n by have := J.out; have := M.out; unfold zerosN at *; omega)
      go_upto_region 4 with fail
      clear SS
      go_wp2_with (refine wpList_val rfl (run_cat 9 _ (.tmp 15) (.const (.string { data := #[0] })) rfl s0 [0] rfl rfl (by have := M2.out; have := ME.out; simp; omega) _) ?_)
      go_roundw
      case rel => exact ⟨j + 1, by have := JZ.out; omega, by rw [SE.out, zero8L_snoc], trivial⟩
      case measure => simp [sizeOfStr, strB_size]; have := M2.out; have := ME.out; omega
end Go.Proofs.Ytphpcegifdiofaa
