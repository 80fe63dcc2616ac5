/- The reference's reader: a text. No condition but those each theorem states. -/
import Derived.Test.YtcmpiockcndejaaRefRdRaw
namespace Go.Proofs.Ytcmpiockcndejaa
set_option linter.unusedVariables false
set_option linter.unusedSimpArgs false
open Go.RowKit
attribute [local go_sem ↓] Go.wp_at_zero Go.wp_at_succ

theorem RefB.keep {W W' : World} {g : Nat} {s : RSt} (h : RefB W g s) (hb : Below W.heap.size W W') : RefB W' g s := below_block hb (row_lt h) h
/-- A reader out of memory, as one value. -/
theorem wpList_load_ref {ops : Array Oper} {rest : List Oper} {o : Oper} {a : Act} {Q : Exit → Act → World → Prop} {w : World} (hgd : o.guard = none) (x : Operand) (ho : o.op = .load 46 x)
    (g : Nat) (hx : a.eval x = .pointer (some ⟨g, 0, none⟩)) (s : RSt) (hg : RefB w g s)
    (h : wpList Try.prog ops Q rest (a.put o.dst (refV s)) w) : wpList Try.prog ops Q (o :: rest) a w :=
  wpList_load_row hgd 46 x ho g hx 46 _ (0, 0) _ hg Try.underlying46 rfl info_ref h
/-- .. into memory. -/
theorem wpList_store_ref {ops : Array Oper} {rest : List Oper} {o : Oper} {a : Act} {Q : Exit → Act → World → Prop} {w : World} (hgd : o.guard = none) (hdst : o.dst = none) (x y : Operand) (ho : o.op = .store 46 x y)
    (g : Nat) (s : RSt) (hx : a.eval x = .pointer (some ⟨g, 0, none⟩)) (hy : a.eval y = refV s) (old : RSt) (hg : RefB w g old)
    (h : ∀ w', RefB w' g s → w.grownBy w' (some g) → w'.heap.size = w.heap.size → wpList Try.prog ops Q rest a w') : wpList Try.prog ops Q (o :: rest) a w :=
  wpList_store_whole hgd hdst 46 x y ho g #[.string (strB s.l), .int .i64 (s.e : Int)] hx hy 46 #[.string (strB old.l), .int .i64 (old.e : Int)] hg info_ref rfl (ref_one _ _) h
theorem RefB.cell1 {W : World} {g : Nat} {s : RSt} (h : RefB W g s) : W.cell? ⟨g, 1, none⟩ = some (.int .i64 (s.e : Int)) := row_cell h 1 rfl
theorem RefB.cell0 {W : World} {g : Nat} {s : RSt} (h : RefB W g s) : W.cell? ⟨g, 0, none⟩ = some (.string (strB s.l)) := row_cell h 0 rfl
theorem RefB.grown {W W' : World} {g : Nat} {s : RSt} {r : Option Nat} (h : RefB W g s) (hg : W.grownBy W' r) (hr : some g ≠ r) : RefB W' g s := grown_block hg hr h
theorem numS_bad_val (s : RSt) (n : Int) : (numS s n).1.e ≠ 0 → (numS s n).2 = 0 := by
  unfold numS takeS
  intro h
  split
  · rfl
  · split
    · rfl
    · rename_i h1 h2
      simp only [if_neg h1, if_neg h2] at h
      exact absurd rfl h
theorem numS_small (s : RSt) (n : Nat) (h : n ≤ 8) : (numS s (n : Int)).2 < 256 ^ n := by
  have h1 := beVal_lt (takeS s (min (n : Int) 8)).2.1
  have h2 := takeS_le s (min (n : Int) 8) n (by omega)
  have h3 : 256 ^ (takeS s (min (n : Int) 8)).2.1.length ≤ 256 ^ n := Nat.pow_le_pow_right (by omega) h2
  exact Nat.lt_of_lt_of_le h1 h3
theorem takeS_none (s : RSt) (n : Int) (h : n < 1) : takeS s n = (s, [], false) := by rw [takeS, if_pos (.inl h)]
set_option maxRecDepth 100000 in
set_option maxHeartbeats 4000000 in
theorem rsz2_any (w : World) (s : RSt) (hl : s.l.length ≤ 100000) :
    Calls Try.prog 24 #[refV s] w fun e w' => e = .returned (.tuple #[refV (sizedS s).1, .string (strB (sizedS s).2)]) ∧ Below w.heap.size w w' := by
  have HL := Lib.hid hl
  obtain ⟨T, hT⟩ : ∃ T, T = numS s 4 := ⟨_, rfl⟩
  have TE := Lib.hid hT
  have TL := Lib.hid (show T.1.l.length ≤ 100000 by rw [hT]; exact Nat.le_trans (numS_few s 4) hl)
  have TB := Lib.hid (show T.2 ≤ 4294967295 by rw [hT]; have : (numS s 4).2 < 256 ^ 4 := numS_small s 4 (by omega); omega)
  have SE := Lib.hid (show sizedS s = if 65536 < T.2 then (⟨[], 3⟩, []) else ((takeS T.1 (T.2 : Int)).1, (takeS T.1 (T.2 : Int)).2.1) by rw [hT]; rfl)
  clear hl hT
  rw [show refV s = .agg #[.string (strB s.l), .int .i64 (s.e : Int)] from rfl]
  obtain ⟨F, hF⟩ : ∃ F, F = sizedS s := ⟨_, rfl⟩
  rw [← hF]
  have FE := Lib.hid hF
  clear hF
  go_enter Try.func24, Try.ntmps24
  go_wp2_with fail
  refine (rnum_any _ s HL.out 4 (by omega)).mono ?_
  rintro e w1 ⟨rfl, hb⟩
  rw [← TE.out]
  have R2 := Lib.hid (show RefB w1 (w.heap.size + 1) ⟨[], 0⟩ from below_block hb (by simp) (ha_new _ _ (w.heap.size + 1) (by simp)))
  have S := Lib.hid ((below2 w _ _).trans (hb.mono (by simp; omega)))
  have SZ := Lib.hid (show w.heap.size + 2 ≤ w1.heap.size by have := hb.size; simp at this; omega)
  clear hb
  obtain ⟨t, n⟩ := T
  simp only
  have TL := Lib.hid (show t.l.length ≤ 100000 from TL.out)
  have TB := Lib.hid (show n ≤ 4294967295 from TB.out)
  have nb : (n : Int) ≤ 4294967295 := by have := TB.out; omega
  have SE := Lib.hid (show sizedS s = if 65536 < n then (⟨[], 3⟩, []) else ((takeS t (n : Int)).1, (takeS t (n : Int)).2.1) from SE.out)
  have N0 := Lib.hid (show t.e ≠ 0 → n = 0 from fun h => by
    have h1 := numS_bad_val s 4
    rw [← TE.out] at h1
    exact h1 h)
  clear TE
  go_upto_region 2 with (first
    | (refine wpList_store_ref rfl rfl (.tmp 4) (.tmp 9) rfl w1.heap.size t rfl rfl ⟨[], 0⟩ (ha_new _ _ _ rfl) ?_; intro w2 hr hg hsz))
  obtain ⟨G, hG⟩ : ∃ G, G = w1.heap.size := ⟨_, rfl⟩
  rw [← hG] at hr hg ⊢
  have R2 := Lib.hid ((R2.out.keep (below_new _ _)).grown hg (by have := row_lt R2.out; rw [hG]; simp; omega))
  have RT := Lib.hid hr
  have S := Lib.hid (show Below w.heap.size w w2 from (S.out.trans ((below_new w1 _).mono S.out.size)).trans (grown_below hg (by have := S.out.size; simp; omega) (by rintro k ⟨⟩; have := S.out.size; omega)))
  have NG := Lib.hid (show w.heap.size + 1 < G by have := SZ.out; omega)
  have c1 := hr.cell1
  clear hr hg hsz hG
  by_cases he : t.e = 0
  · have hE : ((t.e : Int) == 0) = true := by simp; omega
    have hE2 : ((t.e : Int) != 0) = false := by simp; omega
    clear he
    by_cases h6 : 65536 < n
    · have hD : decide ((65536 : Int) < (n : Int)) = true := by simp; omega
      have FV := Lib.hid (show F = (⟨[], 3⟩, []) by rw [FE.out, SE.out, if_pos h6])
      go_wp2_with (refine wpList_load_ref rfl (.tmp 4) rfl G rfl t RT.out ?_)
      refine (rwrong_any _ t 3).mono ?_
      rintro e w3 ⟨rfl, hb⟩
      have R2 := Lib.hid (R2.out.keep hb)
      have S := Lib.hid (S.out.trans (hb.mono S.out.size))
      clear hb
      go_wp2_with (refine wpList_store_ref rfl rfl (.tmp 2) (.tmp 18) rfl (w.heap.size + 1) ⟨[], 3⟩ rfl rfl _ R2.out ?_; intro w4 hr hg hsz)
      refine ret_ref (w.heap.size + 1) ⟨[], 3⟩ _ rfl rfl rfl rfl hr ⟨by rw [FV.out]; rfl, S.out.trans (grown_below hg S.out.size (by rintro k ⟨⟩; omega))⟩
    · have hD : decide ((65536 : Int) < (n : Int)) = false := by simp; omega
      have FV := Lib.hid (show F = ((takeS t (n : Int)).1, (takeS t (n : Int)).2.1) by rw [FE.out, SE.out, if_neg h6])
      have n6 : (n : Int) ≤ 65536 := by omega
      go_wp2_with (refine wpList_load_ref rfl (.tmp 4) rfl G rfl t RT.out ?_)
      refine (rraw_any _ t TL.out (n : Int)).mono ?_
      obtain ⟨z, hz⟩ : ∃ z, z = takeS t (n : Int) := ⟨_, rfl⟩
      rw [← hz]
      have Z := Lib.hid hz
      clear hz
      rintro e w3 ⟨rfl, hb⟩
      have R2 := Lib.hid (R2.out.keep hb)
      have S := Lib.hid (S.out.trans (hb.mono S.out.size))
      clear hb
      go_wp2_with (refine wpList_store_ref rfl rfl (.tmp 2) (.tmp 23) rfl (w.heap.size + 1) z.1 rfl rfl _ R2.out ?_; intro w4 hr hg hsz)
      refine ret_ref (w.heap.size + 1) z.1 _ rfl rfl rfl rfl hr ⟨by rw [FV.out, ← Z.out]; rfl, S.out.trans (grown_below hg S.out.size (by rintro k ⟨⟩; omega))⟩
  · have hE : ((t.e : Int) == 0) = false := by simp; omega
    have hE2 : ((t.e : Int) != 0) = true := by simp; omega
    have FV := Lib.hid (show F = (t, []) by
      rw [FE.out, SE.out, N0.out he, if_neg (by omega)]
      show ((takeS t 0).1, (takeS t 0).2.1) = _
      rw [takeS_none t 0 (by omega)])
    clear he
    go_wp2_with (first
      | (refine wpList_load_ref rfl (.tmp 4) rfl G rfl t RT.out ?_)
      | (refine wpList_store_ref rfl rfl (.tmp 2) (.tmp 14) rfl (w.heap.size + 1) t rfl rfl _ R2.out ?_; intro w3 hr hg hsz))
    refine ret_ref (w.heap.size + 1) t _ rfl rfl rfl rfl hr ⟨by rw [FV.out]; rfl, S.out.trans (grown_below hg S.out.size (by rintro k ⟨⟩; omega))⟩
end Go.Proofs.Ytcmpiockcndejaa
