/- The document's Expand and Derive. No condition but those each theorem states. -/
import Derived.Test.YtimdlnamicgdnaaRefKdf
import Derived.Test.YtimdlnamicgdnaaRefPut
import Derived.Test.YtimdlnamicgdnaaKdfDer
namespace Go.Proofs.Ytimdlnamicgdnaa
set_option linter.unusedVariables false
set_option linter.unusedSimpArgs false
open Go.RowKit
attribute [local go_sem ↓] Go.wp_at_zero Go.wp_at_succ

/-- What is answered. -/
def RExpR (k info : List UInt8) (m : Int) (e : Ending) : Prop :=
  ((m < 0 ∨ 8160 < m) ∧ e = .returned (.tuple #[.string (strB []), .bool false])) ∨ (0 ≤ m ∧ m ≤ 8160 ∧ e = .returned (.tuple #[.string (strB (expandL k info m.toNat)), .bool true]))
theorem run_str_to {P : Program} {o : Oper} {a : Act} (t : TypeId) (x z : Operand) (ho : o.op = .slice t x none (some z) none) (hu : P.underlying t = some .string) (l : List UInt8) (j : Nat) (hj : j ≤ l.length)
    (hx : a.eval x = .string (strB l)) (hz : a.eval z = .int .i64 (j : Int)) (W : World) : (execOp a.eval o).run P W = .ok (.value (.string (strB (l.take j)))) W := by
  have h := run_slice_string_h (P := P) W t (strB l) hu .i64 (j : Int) (by omega) (by rw [strB_size]; omega)
  have h2 := run_sliceAt_string (P := P) (w := W) t (.string (strB l)) none (some (.int .i64 (j : Int))) none hu
  unfold execOp
  simp only [ho, hx, hz, Option.map_some, Option.map_none, Sem.run_bind, Sem.run_pure, h2, h, Result.andThen_ok, Int.toNat_natCast, strB_extract, List.drop_zero, Nat.sub_zero]
set_option maxRecDepth 100000 in
set_option maxHeartbeats 4000000 in
theorem rexpand_any (k info : List UInt8) (kl il : Nat) (hk : k.length = kl) (hkl : kl ≤ 3000) (hi : info.length = il) (hil : il ≤ 2800) (m : Int) (hm : -9223372036854775808 ≤ m ∧ m ≤ 9223372036854775807) (w : World) :
    Calls Try.prog 16 #[.string (strB k), .string (strB info), .int .i64 m] w fun e w' => Below w.heap.size w w' ∧ RExpR k info m e := by
  have HK := Lib.hid hk
  have HI := Lib.hid hi
  have HKL := Lib.hid hkl
  have HIL := Lib.hid hil
  have HM := Lib.hid hm
  clear hk hi hm hkl hil
  go_enter Try.func16, Try.ntmps16
  by_cases h0 : m < 0
  · have hD : decide (m < (0 : Int)) = true := by simp; omega
    go_wp2_with fail
    go_ret2
    exact ⟨Below.refl _ _, .inl ⟨.inl h0, rfl⟩⟩
  · have hD : decide (m < (0 : Int)) = false := by simp; omega
    by_cases h1 : 8160 < m
    · have hE : decide ((8160 : Int) < m) = true := by simp; omega
      go_wp2_with fail
      go_ret2
      exact ⟨Below.refl _ _, .inl ⟨.inr h1, rfl⟩⟩
    · have hE : decide ((8160 : Int) < m) = false := by simp; omega
      obtain ⟨z, rfl⟩ : ∃ z : Nat, m = (z : Int) := ⟨m.toNat, by omega⟩
      have Z := Lib.hid (show z ≤ 8160 by omega)
      have zb : (z : Int) ≤ 8160 := by omega
      go_upto_region 3 with fail
      clear hD hE h0 h1
      go_wp2_with fail
      go_loopw [8, 9, 10] (fun u v i wr => ∃ j : Nat, 32 * j < z + 32 ∧ i = .int .i64 ((j + 1 : Nat) : Int) ∧ u = .string (strB (expX k info j)) ∧ v = .string (strB (lastX k info j)) ∧ Below w.heap.size w wr) (fun _ _ i _ => 300 - (intOf i).toNat)
      case atStart => exact ⟨0, by omega, rfl, rfl, rfl, Below.refl _ _⟩
      case round =>
        obtain ⟨j, hj, rfl, rfl, rfl, hbel⟩ := hrel
        obtain ⟨j1, hj1⟩ : ∃ q, q = j + 1 := ⟨_, rfl⟩
        rw [← hj1]
        have J1 := Lib.hid hj1
        have J := Lib.hid hj
        have S := Lib.hid hbel
        have EL := expX_length k info j
        have XL := Lib.hid (lastX_le k info j)
        obtain ⟨ex, hex⟩ : ∃ ex, ex = expX k info j := ⟨_, rfl⟩
        obtain ⟨la, hla⟩ : ∃ la, la = lastX k info j := ⟨_, rfl⟩
        rw [← hex] at EL ⊢
        rw [← hla] at XL ⊢
        have XE := Lib.hid hex
        have LA := Lib.hid hla
        obtain ⟨p, hp⟩ : ∃ p, p = ex.length := ⟨_, rfl⟩
        rw [← hp] at EL
        have PE := Lib.hid hp.symm
        have P32 := Lib.hid EL
        have SS := strB_size ex
        rw [← hp] at SS
        have jb : (j1 : Int) ≤ 300 := by have := Z.out; omega
        have pb : (p : Int) ≤ 10000 := by have := Z.out; omega
        clear hj hbel hex hla hp EL hj1
        by_cases hlt : p < z
        · have hD : decide ((p : Int) < (z : Int)) = true := by simp; omega
          obtain ⟨bz, hbz, e1⟩ := byte_of j1
          go_upto_region 7 with fail
          clear SS hD
          go_wp2_with (first
            | (refine wpList_val rfl (run_cat 9 _ (.tmp 24) (.tmp 25) rfl la info rfl rfl (by have := XL.out; have := HI.out; have := HIL.out; omega) _) ?_)
            | (refine wpList_val rfl (run_str 22 9 (.tmp 29) rfl Try.underlying22 Try.underlying5 Try.underlying9 (RdB.one (y := bz) (row_cell (fr := (0, 0)) (ha_new _ _ _ rfl) 0 rfl)) 1 1 rfl rfl) ?_)
            | (refine wpList_val rfl (run_cat 9 _ (.tmp 26) (.tmp 30) rfl (la ++ info) [bz] rfl rfl (by have := XL.out; have := HI.out; have := HIL.out; simp; omega) _) ?_))
          clear e1
          generalize hw : World.alloc wr _ = w2
          have S := Lib.hid (show Below w.heap.size w w2 by rw [← hw]; exact S.out.alloc S.out.size _)
          clear hw
          refine (rkMac_any k (la ++ (info ++ [bz])) kl HK.out HKL.out (by have := XL.out; have := HI.out; have := HIL.out; simp; omega) _).mono ?_
          obtain ⟨L, hL⟩ : ∃ L, L = macL k (la ++ (info ++ [bz])) := ⟨_, rfl⟩
          rw [← hL]
          have LE := Lib.hid (show L = lastX k info j1 by rw [hL, J1.out, lastX, ← J1.out, hbz.out, LA.out, List.append_assoc])
          have LL := Lib.hid (show L.length = 32 by rw [hL, macL_length])
          rintro e w3 ⟨rfl, hb⟩
          have S := Lib.hid (S.out.trans (hb.mono S.out.size))
          clear hL hb
          go_wp2_with (refine wpList_val rfl (run_cat 9 _ (.tmp 33) (.tmp 34) rfl ex L rfl rfl (by have := PE.out; have := LL.out; omega) _) ?_)
          go_roundw
          case rel => exact ⟨j1, by have := J1.out; have := P32.out; omega, by go_num, by rw [J1.out, expX, ← J1.out, ← LE.out, XE.out], by rw [LE.out], S.out⟩
          case measure => have := J1.out; have := J.out; have := Z.out; simp [intOf]; omega
        · have hD : decide ((p : Int) < (z : Int)) = false := by simp; omega
          have JN := Lib.hid (show j = needX z by have := J.out; have := P32.out; unfold needX; omega)
          go_upto_region 9 with fail
          clear SS hD
          go_wp2_with (refine wpList_val rfl (run_str_to 9 (.tmp 36) (.tmp 37) rfl Try.underlying9 ex z (by rw [PE.out]; omega) rfl rfl _) ?_)
          go_ret2
          refine ⟨S.out, .inr ⟨by omega, by have := Z.out; omega, ?_⟩⟩
          show Ending.returned (.tuple #[.string (strB (ex.take z)), .bool true]) = Ending.returned (.tuple #[.string (strB (expandL k info z)), .bool true])
          rw [expandL, ← JN.out, ← XE.out]
end Go.Proofs.Ytimdlnamicgdnaa
