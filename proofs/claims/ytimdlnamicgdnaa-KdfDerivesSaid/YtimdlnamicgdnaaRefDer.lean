/- The document's Derive. No condition but those each theorem states. -/
import Derived.Test.YtimdlnamicgdnaaRefExp
import Derived.Test.YtimdlnamicgdnaaKdfDerive
namespace Go.Proofs.Ytimdlnamicgdnaa
set_option linter.unusedVariables false
set_option linter.unusedSimpArgs false
open Go.RowKit
attribute [local go_sem ↓] Go.wp_at_zero Go.wp_at_succ

/-- A row of texts. -/
def StrV (ls : List (List UInt8)) : List Value := ls.map fun l => Value.string (strB l)
theorem StrV_length (ls : List (List UInt8)) : (StrV ls).length = ls.length := by simp [StrV]
theorem StrV_get (ls : List (List UInt8)) (j : Nat) (l : List UInt8) (h : ls[j]? = some l) : (StrV ls)[j]? = some (.string (strB l)) := by simp [StrV, h]
theorem StrV_append (a b : List (List UInt8)) : StrV (a ++ b) = StrV a ++ StrV b := by simp [StrV]
theorem StrV_one (ls : List (List UInt8)) : ∀ u ∈ StrV ls, u.oneCell' = true := by
  intro u hu
  simp only [StrV, List.mem_map] at hu
  obtain ⟨q, _, rfl⟩ := hu
  rfl
theorem infoL_le (word : List UInt8) (ls : List (List UInt8)) (j : Nat) : (infoL word (ls.take j)).length ≤ (infoL word ls).length := by
  conv => rhs; rw [← List.take_append_drop j ls]
  simp only [infoL, List.map_append, List.flatten_append, List.length_append]
  omega
set_option maxRecDepth 100000 in
set_option maxHeartbeats 4000000 in
theorem rderive_any (k word : List UInt8) (kl : Nat) (hk : k.length = kl) (hkl : kl ≤ 3000) (wl : Nat) (hw : word.length = wl) (hwl : wl ≤ 2800) (A : Option Addr) (n c : Nat) (ls : List (List UInt8)) (hn : ls.length = n) (w : World) (hR : RdV w A (StrV ls)) (hil : (infoL word ls).length ≤ 2800) :
    Calls Try.prog 18 #[.string (strB k), .string (strB word), .slice A n c] w fun e w' => e = .returned (.string (strB (deriveL k word ls))) ∧ Below w.heap.size w w' := by
  have HK := Lib.hid hk
  have HKL := Lib.hid hkl
  have HN := Lib.hid hn
  have HR := Lib.hid hR
  have HI := Lib.hid hil
  have N3 := Lib.hid (show n ≤ 2800 by have := hil; rw [infoL, List.length_append, sized_flat] at this; omega)
  have nb : (n : Int) ≤ 2800 := by have := N3.out; omega
  clear hk hkl hn hR hil
  go_enter Try.func18, Try.ntmps18
  go_wp2_with fail
  refine (rsized_any [] word wl hw (by simp) (by omega) w).mono ?_
  rw [List.nil_append]
  rintro e w1 ⟨rfl, hb⟩
  have S := Lib.hid hb
  clear hb
  go_wp2_with fail
  go_loopw [7, 8] (fun u i wr => ∃ j : Nat, j ≤ n ∧ i = .int .i64 (j : Int) ∧ u = .string (strB (infoL word (ls.take j))) ∧ Below w.heap.size w wr) (fun _ i _ => n - (intOf i).toNat)
  case atStart => exact ⟨0, by omega, rfl, by simp [infoL], S.out⟩
  case round =>
    obtain ⟨j, hj, rfl, rfl, hbel⟩ := hrel
    have J := Lib.hid hj
    have S := Lib.hid hbel
    have IL := Lib.hid (show (infoL word (ls.take j)).length ≤ 2800 from Nat.le_trans (infoL_le word ls j) HI.out)
    obtain ⟨I, hI⟩ : ∃ I, I = infoL word (ls.take j) := ⟨_, rfl⟩
    rw [← hI] at IL ⊢
    have IE := Lib.hid hI
    clear hj hbel hI
    by_cases hlt : j < n
    · have hD : decide ((j : Int) < (n : Int)) = true := by simp; omega
      obtain ⟨l, hl⟩ : ∃ l, ls[j]? = some l := ⟨_, List.getElem?_eq_getElem (by rw [HN.out]; exact hlt)⟩
      obtain ⟨b, o, rfl, hcell⟩ := (HR.out.keep S.out) j _ (StrV_get ls j l hl)
      have TS := Lib.hid (show ls.take (j + 1) = ls.take j ++ [l] by rw [List.take_add_one, hl]; rfl)
      have LB := Lib.hid (show l.length ≤ 2800 by
        have h1 := infoL_le word ls (j + 1)
        rw [TS.out, infoL_snoc, List.length_append, sizedL_length] at h1
        have := HI.out
        omega)
      clear hl
      go_wp2_with fail
      refine (rsized_any I l l.length rfl (by have := IL.out; omega) (by have := LB.out; omega) _).mono ?_
      rw [show I ++ sizedL l = infoL word (ls.take (j + 1)) by rw [TS.out, infoL_snoc, IE.out]]
      rintro e w2 ⟨rfl, hb⟩
      have S := Lib.hid (S.out.trans (hb.mono S.out.size))
      clear hb hcell
      go_wp2_with fail
      go_roundw
      case rel => exact ⟨j + 1, by omega, by go_num, rfl, S.out⟩
      case measure => simp [intOf]; omega
    · have hD : decide ((j : Int) < (n : Int)) = false := by simp; omega
      have JE := Lib.hid (show I = infoL word ls by have := J.out; rw [IE.out, List.take_of_length_le (by rw [HN.out]; omega)])
      go_wp2_with fail
      refine (rexpand_any k I kl I.length HK.out HKL.out rfl IL.out 32 (by omega) _).mono ?_
      rintro e w2 ⟨hb, hx⟩
      rcases hx with ⟨hx, _⟩ | ⟨_, _, rfl⟩
      · exfalso; omega
      have S := Lib.hid (S.out.trans (hb.mono S.out.size))
      obtain ⟨X, hX⟩ : ∃ X, X = expandL k I (32 : Int).toNat := ⟨_, rfl⟩
      rw [← hX]
      have XE := Lib.hid (show X = deriveL k word ls by rw [hX, JE.out]; rfl)
      clear hb hX
      go_wp2_with fail
      go_ret
      exact ⟨by rw [XE.out]; rfl, S.out⟩
end Go.Proofs.Ytimdlnamicgdnaa
