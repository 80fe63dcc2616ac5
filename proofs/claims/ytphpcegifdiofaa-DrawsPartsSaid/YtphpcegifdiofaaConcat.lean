/- slices.Concat at bytes: a row of the call's own with the texts' bytes, one behind the other. No condition but those each theorem states. -/
import Derived.Test.YtphpcegifdiofaaHelp
import Derived.Lib.SliceRun
import Derived.Lib.AppendZerosOnto
namespace Go.Proofs.Ytphpcegifdiofaa
set_option linter.unusedVariables false
set_option linter.unusedSimpArgs false
open Go.RowKit
attribute [local go_sem ↓] Go.wp_at_zero Go.wp_at_succ

set_option maxRecDepth 100000 in
set_option maxHeartbeats 1000000 in
theorem grow_any (w : World) (n : Nat) (hb : n ≤ 140737488355328) :
    Calls Try.prog 19 #[.slice none 0 0, .int .i64 (n : Int)] w fun e w' => ∃ v, e = .returned v ∧ OwnB w' w.heap.size v [] ∧ Below w.heap.size w w' := by
  obtain ⟨i0, hi, hz0, hz1, hz2⟩ := info_parts (show (Try.prog.info? 5).map (fun i => (i.zero, i.size, i.bytes)) = some (some (.int .u8 0), 1, 1) by kernel_rfl)
  have nb : (n : Int) ≤ 140737488355328 := by omega
  by_cases h0 : n = 0
  · subst h0
    go_enter Try.func19, Try.ntmps19
    go_wp2_with fail
    go_ret
    exact ⟨_, rfl, OwnB.nil _ _, Below.refl _ _⟩
  · have hD : decide ((0 : Int) < (n : Int)) = true := by simp; omega
    have n0 : (0 : Int) < (n : Int) := by omega
    have G := Lib.hid (show n ≤ grownCap w n 0 5 ∧ grownCap w n 0 5 ≤ maxLen from ⟨grownCap_ge _ _ _ _, grownCap_le_maxLen _ _ _ _ (by unfold maxLen; omega)⟩)
    have HRZ := Lib.hid (fun ty => Lib.run_append_nil_zeros (P := Try.prog) w 22 3 ty 5 i0 _ .i64 .i64 Try.underlying22 Try.underlying3 hi hz0 n (by omega) (by omega) (by omega) (by rw [hz2]; omega))
    have S0 := Lib.hid (show (Builtin.zeroCells (Value.int .u8 0).cells n ++ Builtin.zeroCells (Value.int .u8 0).cells (grownCap w n 0 5 - n)).size = grownCap w n 0 5 * 1 by
      rw [Array.size_append, size_zeroCells, size_zeroCells]
      have := G.out
      have e : (Value.int .u8 0).cells.size = 1 := rfl
      rw [e]
      omega)
    generalize Builtin.zeroCells (Value.int .u8 0).cells n ++ Builtin.zeroCells (Value.int .u8 0).cells (grownCap w n 0 5 - n) = cs at *
    generalize grownCap w n 0 5 = cap at *
    clear h0 hb hi hz0 hz1 hz2
    go_enter Try.func19, Try.ntmps19
    go_wp2_with (refine Lib.wpList_append_run _ rfl (.tmp 20) (.tmp 21) 22 3 rfl _ _ rfl rfl _ _ (HRZ.out _) ?_)
    go_ret
    exact ⟨_, rfl, World.ownsRow_made w.drew cs cap (Nat.le_refl _) G.out.2 S0.out, (Below.refl _ _).drew.alloc (Nat.le_refl _) _⟩
theorem flat_take_le' (ls : List (List UInt8)) (j : Nat) : (ls.take j).flatten.length ≤ ls.flatten.length := by
  conv => rhs; rw [← List.take_append_drop j ls]
  rw [List.flatten_append, List.length_append]
  omega
set_option maxRecDepth 100000 in
set_option maxHeartbeats 2000000 in
theorem concat_any (w : World) (A : Option Addr) (n c : Nat) (vs : List Value) (ls : List (List UInt8)) (hn : vs.length = n) (hR : RdV w A vs) (hall : All2 (SlB w) vs ls) (hfl : ls.flatten.length ≤ 1000000) (hnb : n ≤ 1000000) :
    Calls Try.prog 13 #[.slice A n c] w fun e w' => ∃ v, e = .returned v ∧ OwnB w' w.heap.size v ls.flatten ∧ Below w.heap.size w w' := by
  have TB := Lib.hid (show ByteT Try.prog from ⟨Try.underlying22, by kernel_rfl⟩)
  have HR := Lib.hid hR
  have HA := Lib.hid hall
  have HF := Lib.hid hfl
  have NL := Lib.hid (show ls.length = n by rw [← hall.length, hn])
  have nb : (n : Int) ≤ 1000000 := by omega
  clear hn hR hall hnb hfl
  go_enter Try.func13, Try.ntmps13
  go_wp2_with fail
  go_loopw [3, 11] (fun u i wr => ∃ (j S : Nat), j ≤ n ∧ i = .int .i64 (j : Int) ∧ u = .int .i64 (S : Int) ∧ (ls.take j).flatten.length = S ∧ wr = w) (fun _ i _ => n - (intOf i).toNat)
  case atStart => exact ⟨0, 0, by omega, rfl, rfl, by simp, rfl⟩
  case round =>
    obtain ⟨j, S, hj, rfl, rfl, hsum, hw⟩ := hrel
    rw [hw]
    clear hw wr
    have J := Lib.hid hj
    have SM := Lib.hid hsum
    have sb : (S : Int) ≤ 1000000 := by have := flat_take_le' ls j; have := HF.out; omega
    clear hsum
    by_cases hlt : j < n
    · have hD : decide ((j : Int) < (n : Int)) = true := by simp; omega
      have jb : (j : Int) < (n : Int) := by omega
      obtain ⟨l, hl⟩ : ∃ l, ls[j]? = some l := ⟨_, List.getElem?_eq_getElem (by rw [NL.out]; exact hlt)⟩
      obtain ⟨v, hv, A', c', rfl, hc', hR'⟩ := HA.out.get j l hl
      obtain ⟨b, o, rfl, hcell⟩ := HR.out j _ hv
      have TL := Lib.hid (show (ls.take (j + 1)).flatten.length = (ls.take j).flatten.length + l.length by rw [List.take_add_one, hl]; simp)
      obtain ⟨m, hm⟩ : ∃ m, m = l.length := ⟨_, rfl⟩
      rw [← hm] at hcell TL
      have mb : (m : Int) ≤ 1000000 := by have := flat_take_le' ls (j + 1); have := HF.out; have := TL.out; omega
      obtain ⟨T, hT⟩ : ∃ T, T = S + m := ⟨_, rfl⟩
      have e1 : (S : Int) + (m : Int) = (T : Int) := by omega
      have T0 : ¬ ((T : Int) < 0) := by omega
      have hE : decide ((T : Int) < 0) = false := by simp
      have TT := Lib.hid (show (ls.take (j + 1)).flatten.length = T by have := TL.out; have := SM.out; omega)
      clear hl hv hc' hR' hm hT
      go_wp2_with fail
      go_roundw
      case rel => exact ⟨j + 1, T, by omega, by go_num, rfl, TT.out, trivial⟩
      case measure => simp [intOf]; omega
    · have hD : decide ((j : Int) < (n : Int)) = false := by simp; omega
      have SN := Lib.hid (show S = ls.flatten.length by have := SM.out; rw [List.take_of_length_le (by rw [NL.out]; omega)] at this; omega)
      go_wp2_with fail
      refine (grow_any w S (by have := SN.out; have := HF.out; omega)).mono ?_
      rintro e w1 ⟨v0, rfl, ho, hb⟩
      have O0 := Lib.hid ho
      have S0 := Lib.hid hb
      clear ho hb hD sb
      go_wp2_with fail
      go_loopw [6, 27] (fun u i wr => ∃ j : Nat, j ≤ n ∧ i = .int .i64 (j : Int) ∧ OwnB wr w.heap.size u (ls.take j).flatten ∧ Below w.heap.size w wr) (fun _ i _ => n - (intOf i).toNat)
      case atStart => exact ⟨0, by omega, rfl, O0.out, S0.out⟩
      case round =>
        obtain ⟨j, hj, rfl, ho, hbel⟩ := hrel
        have J := Lib.hid hj
        have O := Lib.hid ho
        have S := Lib.hid hbel
        clear ho hbel
        by_cases hlt : j < n
        · have hD : decide ((j : Int) < (n : Int)) = true := by simp; omega
          have jb : (j : Int) < (n : Int) := by omega
          obtain ⟨l, hl⟩ : ∃ l, ls[j]? = some l := ⟨_, List.getElem?_eq_getElem (by rw [NL.out]; exact hlt)⟩
          obtain ⟨v, hv, A', c', rfl, hc', hR'⟩ := HA.out.get j l hl
          obtain ⟨b, o, rfl, hcell⟩ := (HR.out.keep S.out) j _ hv
          have TL := Lib.hid (show (ls.take (j + 1)).flatten = (ls.take j).flatten ++ l by rw [List.take_add_one, hl]; simp)
          have TN := Lib.hid (show (ls.take j).flatten.length + l.length ≤ 1000000 by have := flat_take_le' ls (j + 1); have := HF.out; have := congrArg List.length TL.out; rw [List.length_append] at this; omega)
          obtain ⟨m, hm⟩ : ∃ m, m = l.length := ⟨_, rfl⟩
          rw [← hm] at hcell TN
          have ME := Lib.hid hm.symm
          have RY := Lib.hid (hR'.keep S.out)
          clear hl hv hc' hR' hm
          go_wp2_with (refine app_list rfl TB.out (.tmp 31) (.tmp 32) rfl w.heap.size u6 (ls.take j).flatten l A' m c' rfl rfl ME.out O.out RY.out S.out.size (by have := TN.out; omega) ?_)
          intro v1 w2 ho hg _
          have S := Lib.hid (S.out.trans (grown_below hg S.out.size (fun k e => (O.out.lt k e).1)))
          have O := Lib.hid (show OwnB w2 w.heap.size v1 (ls.take (j + 1)).flatten by rw [TL.out]; exact ho)
          clear ho hg hcell
          go_wp2_with fail
          go_roundw
          case rel => exact ⟨j + 1, by omega, by go_num, O.out, S.out⟩
          case measure => simp [intOf]; omega
        · have hD : decide ((j : Int) < (n : Int)) = false := by simp; omega
          have LE := Lib.hid (show ls.take j = ls by rw [List.take_of_length_le (by rw [NL.out]; omega)])
          go_wp2_with fail
          go_ret
          exact ⟨_, rfl, by have := O.out; rwa [LE.out] at this, S.out⟩
end Go.Proofs.Ytphpcegifdiofaa
