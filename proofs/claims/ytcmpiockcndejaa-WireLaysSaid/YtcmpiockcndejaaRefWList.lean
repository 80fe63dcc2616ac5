/- The document's wire.List. No condition but those each theorem states. -/
import Derived.Test.YtcmpiockcndejaaWireList
namespace Go.Proofs.Ytcmpiockcndejaa
set_option linter.unusedVariables false
set_option linter.unusedSimpArgs false
open Go.RowKit
attribute [local go_sem ↓] Go.wp_at_zero Go.wp_at_succ

set_option maxRecDepth 100000 in
set_option maxHeartbeats 2000000 in
theorem rwlist_any (b : List UInt8) (hb : b.length ≤ 100000) (A : Option Addr) (n c : Nat) (ls : List (List UInt8)) (hn : ls.length = n) (hnb : n ≤ 65535) (hfl : ls.flatten.length ≤ 1000000) (w : World) (hR : RdV w A (StrV ls)) :
    Calls Try.prog 19 #[.string (strB b), .slice A n c] w fun e w' => e = .returned (.string (strB (b ++ listL ls))) ∧ Below w.heap.size w w' := by
  have HB := Lib.hid hb
  have HN := Lib.hid hn
  have HR := Lib.hid hR
  have HF := Lib.hid hfl
  have NB := Lib.hid hnb
  have nb : (n : Int) ≤ 65535 := by omega
  have hD : decide ((65535 : Int) < (n : Int)) = false := by simp; omega
  obtain ⟨x, hx, e1⟩ := u64_len n (by omega)
  clear hb hn hR hfl hnb
  go_enter Try.func19, Try.ntmps19
  go_wp2_with fail
  refine (rput_any b x 2 (by omega) (by have := HB.out; omega) w).mono ?_
  rw [show beL (putN 2) x.toNat = beL 2 ls.length by rw [hx.out, HN.out]; rfl]
  rintro e w1 ⟨rfl, hb1⟩
  have S := Lib.hid hb1
  clear hb1 e1 hD
  go_wp2_with fail
  go_loopw [0, 6] (fun u i wr => ∃ j : Nat, j ≤ n ∧ i = .int .i64 (j : Int) ∧ u = .string (strB (b ++ beL 2 ls.length ++ ((ls.take j).map sizedL).flatten)) ∧ Below w.heap.size w wr) (fun _ i _ => n - (intOf i).toNat)
  case atStart => exact ⟨0, by omega, rfl, by simp, S.out⟩
  case round =>
    obtain ⟨j, hj, rfl, rfl, hbel⟩ := hrel
    have J := Lib.hid hj
    have S := Lib.hid hbel
    have LT := Lib.hid (show (b ++ beL 2 ls.length ++ ((ls.take j).map sizedL).flatten).length ≤ 2000000 by
      rw [List.length_append, List.length_append, beL_length, sized_flat]
      have := flat_take_le ls j
      have := HF.out
      have := HB.out
      have : (ls.take j).length ≤ 65535 := by rw [List.length_take, HN.out]; have := NB.out; omega
      omega)
    obtain ⟨pre, hpre⟩ : ∃ pre, pre = b ++ beL 2 ls.length ++ ((ls.take j).map sizedL).flatten := ⟨_, rfl⟩
    rw [← hpre] at LT ⊢
    have PE := Lib.hid hpre
    clear hpre hbel
    by_cases hlt : j < n
    · have hE : decide ((j : Int) < (n : Int)) = true := by simp; omega
      obtain ⟨y, hl⟩ : ∃ l, ls[j]? = some l := ⟨_, List.getElem?_eq_getElem (by rw [HN.out]; exact hlt)⟩
      obtain ⟨bb, o, rfl, hcell⟩ := (HR.out.keep S.out) j _ (StrV_get ls j y hl)
      have FL := Lib.hid (show ((ls.take (j + 1)).map sizedL).flatten = ((ls.take j).map sizedL).flatten ++ sizedL y by rw [List.take_add_one, hl]; simp)
      have YB := Lib.hid (show y.length ≤ 1000000 by
        have h1 := flat_take_le ls (j + 1)
        rw [List.take_add_one, hl] at h1
        simp at h1
        have := HF.out
        simp at this
        omega)
      clear hl
      go_wp2_with fail
      refine (rsized_any pre y y.length rfl (by have := LT.out; omega) (by have := YB.out; omega) _).mono ?_
      obtain ⟨nx, hnx⟩ : ∃ nx, nx = b ++ beL 2 ls.length ++ ((ls.take (j + 1)).map sizedL).flatten := ⟨_, rfl⟩
      rw [show pre ++ sizedL y = nx by rw [hnx, FL.out, PE.out, List.append_assoc]]
      have NX := Lib.hid hnx
      clear hnx
      rintro e w2 ⟨rfl, hb⟩
      have S := Lib.hid (S.out.trans (hb.mono S.out.size))
      clear hb hcell
      go_wp2_with fail
      go_roundw
      case rel => exact ⟨j + 1, by omega, by go_num, by rw [NX.out], S.out⟩
      case measure => simp [intOf]; omega
    · have hE : decide ((j : Int) < (n : Int)) = false := by simp; omega
      have PF := Lib.hid (show pre = b ++ listL ls by rw [PE.out, List.take_of_length_le (by rw [HN.out]; omega), listL, List.append_assoc])
      go_wp2_with fail
      go_ret
      exact ⟨by rw [PF.out]; rfl, S.out⟩
end Go.Proofs.Ytcmpiockcndejaa
