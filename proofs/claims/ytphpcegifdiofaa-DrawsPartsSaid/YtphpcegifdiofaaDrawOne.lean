/- Bytes that are told, which every statement of the layer asks: they are. No condition. -/
import Derived.Test.YtphpcegifdiofaaDrawW
import Derived.Lib.SlBytesConst
namespace Go.Proofs.Ytphpcegifdiofaa
set_option linter.unusedVariables false
set_option linter.unusedSimpArgs false
open Go.RowKit
attribute [local go_sem ↓] Go.wp_at_zero Go.wp_at_succ

theorem cv_at {w : World} {C : Array Value} (g n c : Nat) (hg : g = w.heap.size) :
    (convert 22 22 (.slice (some ⟨g, 0, none⟩) n c)).run Try.prog (w.alloc (.cells C 5)) = .ok (.slice (some ⟨g, 0, none⟩) n c) (w.alloc (.cells C 5 (C.size, C.size + 1))) := by
  subst hg
  exact Lib.run_convert_bytes_const w 22 5 C n c Try.underlying22 Try.underlying5
set_option maxRecDepth 100000 in
set_option maxHeartbeats 1000000 in
theorem drawOne_true (w : World) : Calls Try.prog 11 #[] w fun e w' => e = .returned (.bool true) ∧ Below w.heap.size w w' := by
  have h1 := cv_at (w := w) (C := #[.int .u8 97]) w.heap.size 1 1 rfl
  have h2 := cv_at (w := w.alloc (.cells #[.int .u8 97] 5 (1, 2))) (C := #[.int .u8 98]) (w.heap.size + 1) 1 1 (by simp)
  go_enter Try.func11, Try.ntmps11
  go_wp2_with fail
  clear h1 h2
  obtain ⟨w1, hw1⟩ : ∃ w1, w1 = w.alloc (.cells #[.int .u8 97] 5 (1, 2)) := ⟨_, rfl⟩
  obtain ⟨w2, hw2⟩ : ∃ w2, w2 = w1.alloc (.cells #[.int .u8 98] 5 (1, 2)) := ⟨_, rfl⟩
  obtain ⟨w3, hw3⟩ : ∃ w3, w3 = w2.alloc (.cells #[.slice (some ⟨w.heap.size, 0, none⟩) 1 1, .slice (some ⟨w.heap.size + 1, 0, none⟩) 1 1] 22) := ⟨_, rfl⟩
  rw [← hw1, ← hw2, ← hw3]
  have z1 : w1.heap.size = w.heap.size + 1 := by rw [hw1, ha_size]
  have z2 : w2.heap.size = w.heap.size + 1 + 1 := by rw [hw2, ha_size, z1]
  have hb1 : Below w.heap.size w w1 := by rw [hw1]; exact below_new _ _
  have hb2 : Below w1.heap.size w1 w2 := by rw [hw2]; exact below_new _ _
  have hb3 : Below w2.heap.size w2 w3 := by rw [hw3]; exact below_new _ _
  have R1 := Lib.hid (((RdB.row (g := w.heap.size) (l := [97]) (t := 5) (fr := (1, 2)) (by rw [hw1]; exact ha_new w _ _ rfl)).keep hb2).keep hb3)
  have R2 := Lib.hid ((RdB.row (g := w.heap.size + 1) (l := [98]) (t := 5) (fr := (1, 2)) (by rw [hw2]; exact ha_new w1 _ _ z1.symm)).keep hb3)
  have RV := Lib.hid (RdV.row (g := w.heap.size + 1 + 1) (l := [.slice (some ⟨w.heap.size, 0, none⟩) 1 1, .slice (some ⟨w.heap.size + 1, 0, none⟩) 1 1]) (t := 22) (fr := (0, 0)) (w := w3) (by rw [hw3]; exact ha_new w2 _ _ z2.symm))
  have BL := Lib.hid (hb1.trans ((hb2.mono hb1.size).trans (hb3.mono (by omega))))
  clear hb1 hb2 hb3 z1 z2 hw1 hw2 hw3
  refine (dnew_any w3 (some ⟨w.heap.size + 1 + 1, 0, none⟩) 2 2 _ [[97], [98]] rfl RV.out (.cons ⟨_, 1, rfl, Nat.le_refl _, R1.out⟩ (.cons ⟨_, 1, rfl, Nat.le_refl _, R2.out⟩ .nil)) (by decide) (by omega)).mono ?_
  rw [show [[97], [98]].flatten = ([97, 98] : List UInt8) from rfl]
  rintro e w4 ⟨g, D, rfl, hg, hD, hD2, hs, hb⟩
  have S := Lib.hid (SrcW.made BL.out hg hD hD2 hs hb)
  clear hg hD hD2 hs hb R1 R2 RV BL
  go_wp2_with fail
  refine (tellW_any w g D _ _ _ S.out (by decide) 1 (by omega) (by omega)).mono ?_
  rw [show tellS [97, 98] 0 1 = [97] from rfl]
  rintro e w5 ⟨⟨v, rfl, ho⟩, hs, _⟩
  obtain ⟨A5, c5, rfl, hr, _⟩ := ho.read
  have S := Lib.hid hs
  have R5 := Lib.hid hr
  clear ho hs hr
  go_wp2_with (first
    | (refine wpList_val rfl (run_str 22 9 (.tmp 9) rfl Try.underlying22 Try.underlying5 Try.underlying9 R5.out 1 c5 rfl rfl) ?_)
    | (refine wpList_val rfl (run_eqstr_true 9 9 (.tmp 10) (.const (.string { data := #[97] })) rfl [97] [97] rfl rfl rfl _) ?_))
  refine (tellW_any w g D _ _ _ S.out (by decide) 1 (by omega) (by omega)).mono ?_
  rw [show tellS [97, 98] (0 + 1) 1 = [98] from rfl]
  rintro e w6 ⟨⟨v, rfl, ho⟩, hs, _⟩
  obtain ⟨A6, c6, rfl, hr, _⟩ := ho.read
  have S := Lib.hid hs
  have R6 := Lib.hid hr
  clear ho hs hr R5
  go_wp2_with (first
    | (refine wpList_valg rfl (run_str 22 9 (.tmp 14) rfl Try.underlying22 Try.underlying5 Try.underlying9 R6.out 1 c6 rfl rfl) ?_)
    | (refine wpList_valg rfl (run_eqstr_true 9 9 (.tmp 15) (.const (.string { data := #[98] })) rfl [98] [98] rfl rfl rfl _) ?_))
  refine (used_any g D _ _ _ _ S.out.src).mono ?_
  rintro e w7 ⟨rfl, hw⟩
  rw [hw]
  clear hw w7
  go_wp2_with fail
  refine (tellW_any w g D _ _ _ S.out (by decide) 40 (by omega) (by omega)).mono ?_
  rintro e w8 ⟨⟨v, rfl, ho⟩, hs, _⟩
  obtain ⟨A8, c8, rfl, _⟩ := ho.read
  rw [tellS_length]
  have S := Lib.hid hs
  clear ho hs
  go_wp2_with fail
  go_ret
  exact ⟨rfl, S.out.bel⟩
end Go.Proofs.Ytphpcegifdiofaa
