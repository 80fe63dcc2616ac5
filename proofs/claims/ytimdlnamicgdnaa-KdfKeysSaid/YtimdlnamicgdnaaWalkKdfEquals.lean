/- The law KdfEquals, walked. -/
import Derived.Test.YtimdlnamicgdnaaKdfEq
import Derived.Test.YtimdlnamicgdnaaKdfOne
import Derived.Test.YtimdlnamicgdnaaTree
import Derived.Test.YtimdlnamicgdnaaHelp
namespace Go.Proofs.Ytimdlnamicgdnaa
set_option linter.unusedVariables false
set_option linter.unusedSimpArgs false
open Go.RowKit
attribute [local go_sem ↓] Go.wp_at_zero Go.wp_at_succ

set_option maxRecDepth 100000 in
set_option maxHeartbeats 4000000 in
theorem kdfEquals_walk (w : World) (A0 : Option Addr) (c0 : Nat) (l0 : List UInt8) (R0 : RdB w A0 l0) (n0 : l0.length ≤ c0) (m0 : c0 ≤ 9223372036854775807) (b0 : ∀ a, A0 = some a → a.block < w.heap.size) (z0 : l0.length ≤ 140737488351232)
    (A1 : Option Addr) (c1 : Nat) (l1 : List UInt8) (R1 : RdB w A1 l1) (n1 : l1.length ≤ c1) (m1 : c1 ≤ 9223372036854775807) (b1 : ∀ a, A1 = some a → a.block < w.heap.size) (z1 : l1.length ≤ 140737488351232) :
    Calls Try.prog 5 #[.slice A0 l0.length c0, .slice A1 l1.length c1] w fun e w' => e = .returned (.bool true) ∧ Below w.heap.size w w' := by
  obtain ⟨m, hm⟩ : ∃ m, m = l0.length := ⟨_, rfl⟩
  obtain ⟨k, hk⟩ : ∃ m, m = l1.length := ⟨_, rfl⟩
  rw [← hm] at n0 z0 ⊢
  rw [← hk] at n1 z1 ⊢
  have ME := Lib.hid hm.symm
  have KE := Lib.hid hk.symm
  have TB := Lib.hid (show ByteT Try.prog from ⟨Try.underlying22, by kernel_rfl⟩)
  have H0 := Lib.hid R0
  have H1 := Lib.hid R1
  have bm : (m : Int) ≤ 140737488351232 := by omega
  have bk : (k : Int) ≤ 140737488351232 := by omega
  clear hm hk R0 R1 n0 n1 m0 m1 b0 b1
  go_enter Try.func5, Try.ntmps5
  by_cases h1 : 5000 < m
  · have hD : decide ((5000 : Int) < (m : Int)) = true := by simp; omega
    go_wp2_with fail
    go_ret
    exact ⟨rfl, Below.refl _ _⟩
  · have hD : decide ((5000 : Int) < (m : Int)) = false := by simp; omega
    by_cases h2 : 5000 < k
    · have hE : decide ((5000 : Int) < (k : Int)) = true := by simp; omega
      go_wp2_with fail
      go_ret
      exact ⟨rfl, Below.refl _ _⟩
    · have hE : decide ((5000 : Int) < (k : Int)) = false := by simp; omega
      have M5 := Lib.hid (show m ≤ 5000 ∧ k ≤ 5000 by omega)
      go_upto_region 3 with fail
      have S := Lib.hid (show Below w.heap.size w w.drew from (Below.refl _ _).drew)
      clear hD hE
      refine wp_region_tree (fun W => Below w.heap.size w W) (.q 0 (.q 1 (.q 3 (.q 4 (.q 5 (.q 6 (.q 7 (.t 2 (.q 8 (.q 9 (.q 10 (.q 12 (.t 11 (.t 13 (.t 14 (.q 15 (.q 16 (.q 17 (.q 19 (.two 18 (.two 20 (.t 21 (.t 22 (.t 23 (.q 24 (.q 25 (.q 26 (.t 27 (.q 28 (.q 29 .done))))))))) 21 (.t 20 (.t 22 (.t 23 (.q 24 (.q 25 (.q 26 (.t 27 (.q 28 (.q 29 .done)))))))))) 21 (.t 18 (.t 20 (.t 22 (.t 23 (.q 24 (.q 25 (.q 26 (.t 27 (.q 28 (.q 29 .done)))))))))))))))))))))))))))))) (by kernel_rfl) (by kernel_rfl) (fun _ _ d _ _ h => by cases d <;> exact h) ?_
      refine road_q (v := ?_) rfl rfl (S.out) ?_ ?_
      rotate_left
      · intro W hW
        go_simp
        with_reducible rfl
      simp only [Act.put, List.setIfInBounds_toArray, List.set_cons_zero, List.set_cons_succ]
      refine road_q (v := ?_) rfl rfl (S.out) ?_ ?_
      rotate_left
      · intro W hW
        go_simp
        with_reducible rfl
      simp only [Act.put, List.setIfInBounds_toArray, List.set_cons_zero, List.set_cons_succ]
      refine road_q (v := ?_) rfl rfl (S.out) ?_ ?_
      rotate_left
      · intro W hW
        go_simp
        with_reducible rfl
      simp only [Act.put, List.setIfInBounds_toArray, List.set_cons_zero, List.set_cons_succ]
      refine road_q rfl rfl (S.out) (fun W hW => run_str 22 9 (.tmp 16) rfl Try.underlying22 Try.underlying5 Try.underlying9 (H0.out.keep hW) m c0 ME.out rfl) ?_
      simp only [Act.put, List.setIfInBounds_toArray, List.set_cons_zero, List.set_cons_succ]
      refine road_q (v := ?_) rfl rfl (S.out) ?_ ?_
      rotate_left
      · intro W hW
        go_simp
        with_reducible rfl
      simp only [Act.put, List.setIfInBounds_toArray, List.set_cons_zero, List.set_cons_succ]
      refine road_q rfl rfl (S.out) (fun W hW => run_str 22 9 (.tmp 18) rfl Try.underlying22 Try.underlying5 Try.underlying9 (H1.out.keep hW) k c1 KE.out rfl) ?_
      simp only [Act.put, List.setIfInBounds_toArray, List.set_cons_zero, List.set_cons_succ]
      refine road_q rfl rfl (S.out) (fun W hW => run_eqstr 9 9 (.tmp 17) (.tmp 19) rfl l0 l1 rfl rfl W) ?_
      simp only [Act.put, List.setIfInBounds_toArray, List.set_cons_zero, List.set_cons_succ]
      refine road_t rfl rfl (fun K hK => ?_)
      go_simp
      refine (equal_any _ A0 m c0 l0 ME.out (H0.out.keep S.out) A1 k c1 l1 KE.out (H1.out.keep S.out) (by omega) (by omega)).mono ?_
      obtain ⟨E, hE⟩ : ∃ E, E = decide (l0 = l1) := ⟨_, rfl⟩
      rw [← hE]
      clear hE
      rintro e w2 ⟨rfl, hb2⟩
      have S := Lib.hid (S.out.trans (hb2.mono S.out.size))
      clear hb2
      refine hK.out _ _ (S.out) ?_
      clear hK K
      refine road_q (v := ?_) rfl rfl (S.out) ?_ ?_
      rotate_left
      · intro W hW
        go_simp
        with_reducible rfl
      simp only [Act.put, List.setIfInBounds_toArray, List.set_cons_zero, List.set_cons_succ]
      refine road_q (v := ?_) rfl rfl (S.out) ?_ ?_
      rotate_left
      · intro W hW
        go_simp
        with_reducible rfl
      simp only [Act.put, List.setIfInBounds_toArray, List.set_cons_zero, List.set_cons_succ]
      refine road_q (v := ?_) rfl rfl (S.out) ?_ ?_
      rotate_left
      · intro W hW
        go_simp
        with_reducible rfl
      simp only [Act.put, List.setIfInBounds_toArray, List.set_cons_zero, List.set_cons_succ]
      refine road_q (v := ?_) rfl rfl (S.out) ?_ ?_
      rotate_left
      · intro W hW
        go_simp
        with_reducible rfl
      simp only [Act.put, List.setIfInBounds_toArray, List.set_cons_zero, List.set_cons_succ]
      refine road_t rfl rfl (fun K hK => ?_)
      go_simp
      generalize hB : Array.size (World.heap _) = NB
      generalize hw : World.alloc _ _ = wn
      obtain ⟨ho, hs, hb⟩ := made_new hw hB S.out
      have O := Lib.hid ho
      have S := Lib.hid hs
      clear hB hw hb ho hs
      refine hK.out _ _ (S.out) ?_
      clear hK K
      refine road_t rfl rfl (fun K hK => ?_)
      refine app_wp TB.out (.tmp 24) (.tmp 25) rfl w.heap.size _ [] l0 A0 m c0 rfl rfl ME.out O.out (H0.out.keep S.out) S.out.size (by have := M5.out; simp; omega) ?_
      intro v13 w4 ho hg _
      have S := Lib.hid (below_own S.out O.out hg)
      obtain ⟨A13, c13, rfl, hr, hl, _, _⟩ := ho.read
      rw [List.nil_append] at hr hl ⊢
      rw [ME.out] at hl ⊢
      have R13 := Lib.hid hr
      clear ho hg hr hl O
      refine hK.out _ _ (S.out) ?_
      clear hK K
      refine road_t rfl rfl (fun K hK => ?_)
      go_simp
      refine (equal_any _ A0 m c0 l0 ME.out (H0.out.keep S.out) A13 m c13 l0 ME.out R13.out (by omega) (by omega)).mono ?_
      rw [show decide (l0 = l0) = true by simp]
      rintro e w5 ⟨rfl, hb⟩
      have S := Lib.hid (S.out.trans (hb.mono S.out.size))
      clear hb R13
      refine hK.out _ _ (S.out) ?_
      clear hK K
      refine road_q (v := ?_) rfl rfl (S.out) ?_ ?_
      rotate_left
      · intro W hW
        go_simp
        with_reducible rfl
      simp only [Act.put, List.setIfInBounds_toArray, List.set_cons_zero, List.set_cons_succ]
      refine road_q (v := ?_) rfl rfl (S.out) ?_ ?_
      rotate_left
      · intro W hW
        go_simp
        with_reducible rfl
      simp only [Act.put, List.setIfInBounds_toArray, List.set_cons_zero, List.set_cons_succ]
      refine road_q (v := ?_) rfl rfl (S.out) ?_ ?_
      rotate_left
      · intro W hW
        go_simp
        with_reducible rfl
      simp only [Act.put, List.setIfInBounds_toArray, List.set_cons_zero, List.set_cons_succ]
      refine road_q (v := ?_) rfl rfl (S.out) ?_ ?_
      rotate_left
      · intro W hW
        go_simp
        with_reducible rfl
      simp only [Act.put, List.setIfInBounds_toArray, List.set_cons_zero, List.set_cons_succ]
      refine road_two ?_ ?_
      ·
        refine road_t rfl rfl (fun K hK => ?_)
        go_simp
        generalize hB : Array.size (World.heap _) = NB
        generalize hw : World.alloc _ _ = wn
        obtain ⟨ho, hs, hb⟩ := made_new hw hB S.out
        have O := Lib.hid ho
        have S := Lib.hid hs
        try have NE := Lib.hid (show NC ≠ NB by have : NC < _ := R21.out.lt (by simp) _ rfl; omega)
        try have R21 := Lib.hid (R21.out.keep hb)
        clear hB hw hb ho hs
        refine hK.out _ _ (S.out) ?_
        clear hK K
        refine road_two ?_ ?_
        ·
          refine road_t rfl rfl (fun K hK => ?_)
          refine app_wp TB.out (.tmp 31) (.tmp 32) rfl w.heap.size _ [] l0 A0 m c0 rfl rfl ME.out O.out (H0.out.keep S.out) S.out.size (by have := M5.out; simp; omega) ?_
          intro v20 w6 ho hg _
          try have R21 := Lib.hid (R21.out.grown hg (fun g e a ea => by cases ea; cases e; exact NE.out))
          have S := Lib.hid (below_own S.out O.out hg)
          have O20 := Lib.hid ho
          clear ho hg O
          refine hK.out _ _ (S.out) ?_
          clear hK K
          refine road_t rfl rfl (fun K hK => ?_)
          go_simp
          generalize hB : Array.size (World.heap _) = NC
          generalize hw : World.alloc _ _ = wn
          obtain ⟨hr, hs, hb⟩ := built_one (x := 0) hw hB S.out
          have R21 := Lib.hid hr
          have S := Lib.hid hs
          try have NE := Lib.hid (show NC ≠ NB by have := (O.out.lt NB rfl).2; omega)
          try have O := Lib.hid (O.out.below hb)
          try have O20 := Lib.hid (O20.out.below hb)
          clear hB hw hb hr hs
          refine hK.out _ _ (S.out) ?_
          clear hK K
          refine road_t rfl rfl (fun K hK => ?_)
          refine app_wp TB.out (.tmp 33) (.tmp 34) rfl w.heap.size _ l0 [0] (some ⟨NC, 0, none⟩) 1 1 rfl rfl rfl O20.out R21.out S.out.size (by have := M5.out; have := ME.out; omega) ?_
          intro v22 w7 ho hg _
          have S := Lib.hid (below_own S.out O20.out hg)
          obtain ⟨A22, c22, rfl, hr, hl, _, _⟩ := ho.read
          have LE := Lib.hid (show (l0 ++ [0]).length = m + 1 by rw [List.length_append, ME.out]; rfl)
          rw [LE.out] at hl ⊢
          have R22 := Lib.hid hr
          clear ho hg hr hl
          refine hK.out _ _ (S.out) ?_
          clear hK K
          refine road_t rfl rfl (fun K hK => ?_)
          go_simp
          refine (equal_any _ A0 m c0 l0 ME.out (H0.out.keep S.out) A22 (m + 1) c22 (l0 ++ [0]) LE.out R22.out (by omega) (by omega)).mono ?_
          rw [show decide (l0 = l0 ++ [0]) = false by simp]
          rintro e w8 ⟨rfl, hb⟩
          have S := Lib.hid (S.out.trans (hb.mono S.out.size))
          clear hb R22
          refine hK.out _ _ (S.out) ?_
          clear hK K
          refine road_q (v := ?_) rfl rfl (S.out) ?_ ?_
          rotate_left
          · intro W hW
            go_simp
            with_reducible rfl
          simp only [Act.put, List.setIfInBounds_toArray, List.set_cons_zero, List.set_cons_succ]
          refine road_q (v := ?_) rfl rfl (S.out) ?_ ?_
          rotate_left
          · intro W hW
            go_simp
            with_reducible rfl
          simp only [Act.put, List.setIfInBounds_toArray, List.set_cons_zero, List.set_cons_succ]
          refine road_q (v := ?_) rfl rfl (S.out) ?_ ?_
          rotate_left
          · intro W hW
            go_simp
            with_reducible rfl
          simp only [Act.put, List.setIfInBounds_toArray, List.set_cons_zero, List.set_cons_succ]
          refine road_t rfl rfl (fun K hK => ?_)
          go_simp
          refine (kdfOne_true _).mono ?_
          rintro e w9 ⟨rfl, hb⟩
          have S := Lib.hid (S.out.trans (hb.mono S.out.size))
          clear hb
          refine hK.out _ _ (S.out) ?_
          clear hK K
          refine road_q (v := ?_) rfl rfl (S.out) ?_ ?_
          rotate_left
          · intro W hW
            go_simp
            with_reducible rfl
          simp only [Act.put, List.setIfInBounds_toArray, List.set_cons_zero, List.set_cons_succ]
          refine road_q (v := ?_) rfl rfl (S.out) ?_ ?_
          rotate_left
          · intro W hW
            go_simp
            with_reducible rfl
          simp only [Act.put, List.setIfInBounds_toArray, List.set_cons_zero, List.set_cons_succ]
          refine road_done ?_
          go_wp2_with fail
          go_ret
          exact ⟨rfl, S.out⟩
        ·
          refine road_t rfl rfl (fun K hK => ?_)
          go_simp
          generalize hB : Array.size (World.heap _) = NC
          generalize hw : World.alloc _ _ = wn
          obtain ⟨hr, hs, hb⟩ := built_one (x := 0) hw hB S.out
          have R21 := Lib.hid hr
          have S := Lib.hid hs
          try have NE := Lib.hid (show NC ≠ NB by have := (O.out.lt NB rfl).2; omega)
          try have O := Lib.hid (O.out.below hb)
          try have O20 := Lib.hid (O20.out.below hb)
          clear hB hw hb hr hs
          refine hK.out _ _ (S.out) ?_
          clear hK K
          refine road_t rfl rfl (fun K hK => ?_)
          refine app_wp TB.out (.tmp 31) (.tmp 32) rfl w.heap.size _ [] l0 A0 m c0 rfl rfl ME.out O.out (H0.out.keep S.out) S.out.size (by have := M5.out; simp; omega) ?_
          intro v20 w6 ho hg _
          try have R21 := Lib.hid (R21.out.grown hg (fun g e a ea => by cases ea; cases e; exact NE.out))
          have S := Lib.hid (below_own S.out O.out hg)
          have O20 := Lib.hid ho
          clear ho hg O
          refine hK.out _ _ (S.out) ?_
          clear hK K
          refine road_t rfl rfl (fun K hK => ?_)
          refine app_wp TB.out (.tmp 33) (.tmp 34) rfl w.heap.size _ l0 [0] (some ⟨NC, 0, none⟩) 1 1 rfl rfl rfl O20.out R21.out S.out.size (by have := M5.out; have := ME.out; omega) ?_
          intro v22 w7 ho hg _
          have S := Lib.hid (below_own S.out O20.out hg)
          obtain ⟨A22, c22, rfl, hr, hl, _, _⟩ := ho.read
          have LE := Lib.hid (show (l0 ++ [0]).length = m + 1 by rw [List.length_append, ME.out]; rfl)
          rw [LE.out] at hl ⊢
          have R22 := Lib.hid hr
          clear ho hg hr hl
          refine hK.out _ _ (S.out) ?_
          clear hK K
          refine road_t rfl rfl (fun K hK => ?_)
          go_simp
          refine (equal_any _ A0 m c0 l0 ME.out (H0.out.keep S.out) A22 (m + 1) c22 (l0 ++ [0]) LE.out R22.out (by omega) (by omega)).mono ?_
          rw [show decide (l0 = l0 ++ [0]) = false by simp]
          rintro e w8 ⟨rfl, hb⟩
          have S := Lib.hid (S.out.trans (hb.mono S.out.size))
          clear hb R22
          refine hK.out _ _ (S.out) ?_
          clear hK K
          refine road_q (v := ?_) rfl rfl (S.out) ?_ ?_
          rotate_left
          · intro W hW
            go_simp
            with_reducible rfl
          simp only [Act.put, List.setIfInBounds_toArray, List.set_cons_zero, List.set_cons_succ]
          refine road_q (v := ?_) rfl rfl (S.out) ?_ ?_
          rotate_left
          · intro W hW
            go_simp
            with_reducible rfl
          simp only [Act.put, List.setIfInBounds_toArray, List.set_cons_zero, List.set_cons_succ]
          refine road_q (v := ?_) rfl rfl (S.out) ?_ ?_
          rotate_left
          · intro W hW
            go_simp
            with_reducible rfl
          simp only [Act.put, List.setIfInBounds_toArray, List.set_cons_zero, List.set_cons_succ]
          refine road_t rfl rfl (fun K hK => ?_)
          go_simp
          refine (kdfOne_true _).mono ?_
          rintro e w9 ⟨rfl, hb⟩
          have S := Lib.hid (S.out.trans (hb.mono S.out.size))
          clear hb
          refine hK.out _ _ (S.out) ?_
          clear hK K
          refine road_q (v := ?_) rfl rfl (S.out) ?_ ?_
          rotate_left
          · intro W hW
            go_simp
            with_reducible rfl
          simp only [Act.put, List.setIfInBounds_toArray, List.set_cons_zero, List.set_cons_succ]
          refine road_q (v := ?_) rfl rfl (S.out) ?_ ?_
          rotate_left
          · intro W hW
            go_simp
            with_reducible rfl
          simp only [Act.put, List.setIfInBounds_toArray, List.set_cons_zero, List.set_cons_succ]
          refine road_done ?_
          go_wp2_with fail
          go_ret
          exact ⟨rfl, S.out⟩
      ·
        refine road_t rfl rfl (fun K hK => ?_)
        go_simp
        generalize hB : Array.size (World.heap _) = NC
        generalize hw : World.alloc _ _ = wn
        obtain ⟨hr, hs, hb⟩ := built_one (x := 0) hw hB S.out
        have R21 := Lib.hid hr
        have S := Lib.hid hs
        try have NE := Lib.hid (show NC ≠ NB by have := (O.out.lt NB rfl).2; omega)
        try have O := Lib.hid (O.out.below hb)
        try have O20 := Lib.hid (O20.out.below hb)
        clear hB hw hb hr hs
        refine hK.out _ _ (S.out) ?_
        clear hK K
        refine road_t rfl rfl (fun K hK => ?_)
        go_simp
        generalize hB : Array.size (World.heap _) = NB
        generalize hw : World.alloc _ _ = wn
        obtain ⟨ho, hs, hb⟩ := made_new hw hB S.out
        have O := Lib.hid ho
        have S := Lib.hid hs
        try have NE := Lib.hid (show NC ≠ NB by have : NC < _ := R21.out.lt (by simp) _ rfl; omega)
        try have R21 := Lib.hid (R21.out.keep hb)
        clear hB hw hb ho hs
        refine hK.out _ _ (S.out) ?_
        clear hK K
        refine road_t rfl rfl (fun K hK => ?_)
        refine app_wp TB.out (.tmp 31) (.tmp 32) rfl w.heap.size _ [] l0 A0 m c0 rfl rfl ME.out O.out (H0.out.keep S.out) S.out.size (by have := M5.out; simp; omega) ?_
        intro v20 w6 ho hg _
        try have R21 := Lib.hid (R21.out.grown hg (fun g e a ea => by cases ea; cases e; exact NE.out))
        have S := Lib.hid (below_own S.out O.out hg)
        have O20 := Lib.hid ho
        clear ho hg O
        refine hK.out _ _ (S.out) ?_
        clear hK K
        refine road_t rfl rfl (fun K hK => ?_)
        refine app_wp TB.out (.tmp 33) (.tmp 34) rfl w.heap.size _ l0 [0] (some ⟨NC, 0, none⟩) 1 1 rfl rfl rfl O20.out R21.out S.out.size (by have := M5.out; have := ME.out; omega) ?_
        intro v22 w7 ho hg _
        have S := Lib.hid (below_own S.out O20.out hg)
        obtain ⟨A22, c22, rfl, hr, hl, _, _⟩ := ho.read
        have LE := Lib.hid (show (l0 ++ [0]).length = m + 1 by rw [List.length_append, ME.out]; rfl)
        rw [LE.out] at hl ⊢
        have R22 := Lib.hid hr
        clear ho hg hr hl
        refine hK.out _ _ (S.out) ?_
        clear hK K
        refine road_t rfl rfl (fun K hK => ?_)
        go_simp
        refine (equal_any _ A0 m c0 l0 ME.out (H0.out.keep S.out) A22 (m + 1) c22 (l0 ++ [0]) LE.out R22.out (by omega) (by omega)).mono ?_
        rw [show decide (l0 = l0 ++ [0]) = false by simp]
        rintro e w8 ⟨rfl, hb⟩
        have S := Lib.hid (S.out.trans (hb.mono S.out.size))
        clear hb R22
        refine hK.out _ _ (S.out) ?_
        clear hK K
        refine road_q (v := ?_) rfl rfl (S.out) ?_ ?_
        rotate_left
        · intro W hW
          go_simp
          with_reducible rfl
        simp only [Act.put, List.setIfInBounds_toArray, List.set_cons_zero, List.set_cons_succ]
        refine road_q (v := ?_) rfl rfl (S.out) ?_ ?_
        rotate_left
        · intro W hW
          go_simp
          with_reducible rfl
        simp only [Act.put, List.setIfInBounds_toArray, List.set_cons_zero, List.set_cons_succ]
        refine road_q (v := ?_) rfl rfl (S.out) ?_ ?_
        rotate_left
        · intro W hW
          go_simp
          with_reducible rfl
        simp only [Act.put, List.setIfInBounds_toArray, List.set_cons_zero, List.set_cons_succ]
        refine road_t rfl rfl (fun K hK => ?_)
        go_simp
        refine (kdfOne_true _).mono ?_
        rintro e w9 ⟨rfl, hb⟩
        have S := Lib.hid (S.out.trans (hb.mono S.out.size))
        clear hb
        refine hK.out _ _ (S.out) ?_
        clear hK K
        refine road_q (v := ?_) rfl rfl (S.out) ?_ ?_
        rotate_left
        · intro W hW
          go_simp
          with_reducible rfl
        simp only [Act.put, List.setIfInBounds_toArray, List.set_cons_zero, List.set_cons_succ]
        refine road_q (v := ?_) rfl rfl (S.out) ?_ ?_
        rotate_left
        · intro W hW
          go_simp
          with_reducible rfl
        simp only [Act.put, List.setIfInBounds_toArray, List.set_cons_zero, List.set_cons_succ]
        refine road_done ?_
        go_wp2_with fail
        go_ret
        exact ⟨rfl, S.out⟩
end Go.Proofs.Ytimdlnamicgdnaa
