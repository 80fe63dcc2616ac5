/- The law ShaMore, walked. -/
import Derived.Test.YtpplmogcjjgphaaWalkShaOf
import Derived.Test.YtpplmogcjjgphaaMasks
namespace Go.Proofs.Ytpplmogcjjgphaa
set_option linter.unusedVariables false
set_option linter.unusedSimpArgs false
open Go.RowKit
attribute [local go_sem ↓] Go.wp_at_zero Go.wp_at_succ

/-- A Hash of the call's own. -/
structure MoW (w : World) (E : Nat) (q : HSt) (W : World) : Prop where
  be : W.heap[E]? = some (.cells (HBx true q) 42 (0, 0))
  hE : w.heap.size ≤ E
  bel : Below w.heap.size w W
theorem MoW.step {w W W' : World} {E : Nat} {q q' : HSt} (h : MoW w E q W) (hb : W'.heap[E]? = some (.cells (HBx true q') 42 (0, 0))) (hg : W.grownBy W' (some E)) : MoW w E q' W' where
  be := hb
  hE := h.hE
  bel := h.bel.trans (grown_below hg h.bel.size (by intro g e; cases e; exact h.hE))
theorem MoW.keep {w W W' : World} {E : Nat} {q : HSt} (h : MoW w E q W) (hb : Below W.heap.size W W') : MoW w E q W' where
  be := below_block hb (row_lt h.be) h.be
  hE := h.hE
  bel := h.bel.trans (hb.mono h.bel.size)
/-- .. and a sum. -/
structure M2W (w : World) (E : Nat) (q : HSt) (M : Nat) (H : List UInt8) (W : World) : Prop where
  m : MoW w E q W
  bm : W.heap[M]? = some (.cells (W8 H) 23 (0, 0))
  hM : M ≠ E
theorem M2W.keep {w W W' : World} {E M : Nat} {q : HSt} {H : List UInt8} (h : M2W w E q M H W) (hb : Below W.heap.size W W') : M2W w E q M H W' :=
  ⟨h.m.keep hb, below_block hb (row_lt h.bm) h.bm, h.hM⟩
theorem M2W.step {w W W' : World} {E M : Nat} {q q' : HSt} {H : List UInt8} (h : M2W w E q M H W) (hb : W'.heap[E]? = some (.cells (HBx true q') 42 (0, 0))) (hg : W.grownBy W' (some E)) : M2W w E q' M H W' :=
  ⟨h.m.step hb hg, grown_block hg (fun e => h.hM (by injection e)) h.bm, h.hM⟩
theorem u64_of_len (n : Nat) (h : n ≤ 140737488355328) : IntKind.u64.wrap (n : Int) = (n : Int) := by rw [IntKind.wrap_u64]; omega

set_option maxRecDepth 100000 in
set_option maxHeartbeats 4000000 in
theorem shaMore_walk (w : World) (A : Option Addr) (c : Nat) (bs : List UInt8) (hR : RdB w A bs) (hlc : bs.length ≤ c) (hcm : c ≤ 9223372036854775807) (hlt : ∀ a, A = some a → a.block < w.heap.size) (hz : bs.length ≤ 140737488351232) (at_ : Int) (hat : -9223372036854775808 ≤ at_ ∧ at_ ≤ 9223372036854775807) :
    Calls Try.prog 6 #[.slice A bs.length c, .int .i64 at_] w fun e w' => e = .returned (.bool true) ∧ Below w.heap.size w w' := by
  have HR := Lib.hid hR
  obtain ⟨i0, hi, hz0, hz1, hz2⟩ := info_parts (show (Try.prog.info? 5).map (fun i => (i.zero, i.size, i.bytes)) = some (some (.int .u8 0), 1, 1) by kernel_rfl)
  have I0 := Lib.hid hi
  have I2 := Lib.hid hz1
  clear hi hz0 hz1 hz2 hR hlt
  go_enter Try.func6, Try.ntmps6
  go_upto_if 10 with fail
  go_cut [0] (fun b wx => ∃ l : List UInt8, b = .slice A l.length c ∧ RdB w A l ∧ l.length ≤ 2000 ∧ l.length ≤ c ∧ wx = w)
  case first =>
    by_cases h2 : 2000 < bs.length
    · have hD : decide ((2000 : Int) < (bs.length : Int)) = true := by simp; omega
      have hcut := cut_to (P := Try.prog) 22 5 Try.underlying22 I0.out I2.out A bs.length c 2000 (by omega)
      go_wp2_with fail
      go_meet
      exact ⟨bs.take 2000, by rw [show (bs.take 2000).length = 2000 by rw [List.length_take]; omega], HR.out.take _, by rw [List.length_take]; omega, by rw [List.length_take]; omega, rfl⟩
    · have hD : decide ((2000 : Int) < (bs.length : Int)) = false := by simp; omega
      go_wp2_with fail
      go_meet
      exact ⟨bs, rfl, HR.out, by omega, hlc, rfl⟩
  case rest =>
  clear hlc HR hz
  obtain ⟨l, rfl, hr, hl2, hlc, rfl⟩ := hcut
  obtain ⟨N, hN⟩ : ∃ N, N = l.length := ⟨_, rfl⟩
  rw [← hN] at hl2 hlc ⊢
  have NL := Lib.hid hN.symm
  have RR := Lib.hid hr
  have LC := Lib.hid hlc
  obtain ⟨m, hm, hmm0⟩ := mask_i64 at_ 2047 (by omega)
  have hmm : bits .and .i64 at_ 2047 = (m : Int) := hmm0
  clear hmm0
  clear hr hlc hN
  go_upto_if 18 with fail
  clear hmm
  go_cut [5] (fun u wx => ∃ n : Nat, u = .int .i64 (n : Int) ∧ n ≤ N ∧ wx = wc)
  case first =>
    by_cases h2 : N < m
    · have hD : decide ((N : Int) < (m : Int)) = true := by simp; omega
      have hD2 : decide (N < m) = true := by simp; omega
      go_wp2_with fail
      go_meet
      exact ⟨N, rfl, Nat.le_refl _, rfl⟩
    · have hD : decide ((N : Int) < (m : Int)) = false := by simp; omega
      have hD2 : decide (N < m) = false := by simp; omega
      go_wp2_with fail
      go_meet
      exact ⟨m, rfl, by omega, rfl⟩
  case rest =>
  obtain ⟨n, rfl, hn, rfl⟩ := hcut
  obtain ⟨w, rfl⟩ : ∃ w : World, w = wc := ⟨_, rfl⟩
  have NN := Lib.hid hn
  have NC := Lib.hid (show n ≤ c by have := LC.out; omega)
  have hct := cut_to (P := Try.prog) 22 5 Try.underlying22 I0.out I2.out A N c n NC.out
  obtain ⟨A', hcut, hcutR, _⟩ := cut_from (P := Try.prog) 22 5 Try.underlying22 I0.out I2.out A N c n hn
  have HC := Lib.hid hcut
  have HCR := Lib.hid (hcutR w l NL.out LC.out RR.out)
  clear hcutR hcut
  go_wp2_with fail
  refine (shaNew_any _).mono ?_
  rintro e w1 ⟨E, rfl, hE, hgE, hb1⟩
  have M1 := Lib.hid (show MoW w E startH w1 from ⟨hgE, hE, hb1⟩)
  clear hE hgE hb1
  have LT := Lib.hid (show (l.take n).length = n by have := NL.out; have := NN.out; simp; omega)
  have LD := Lib.hid (show (l.drop n).length = N - n by have := NL.out; simp; omega)
  go_wp2_with fail
  refine (write_any true E startH startH_ok _ A n c (l.take n) LT.out NC.out ((RR.out.keep M1.out.bel).take n) (fun h0 a ea => by have := ((RR.out.take n).lt h0) a ea; have := M1.out.hE; omega) (by have := NN.out; simp [startH]; omega) M1.out.be).mono ?_
  rintro e w2 ⟨rfl, hg2, hgr2⟩
  obtain ⟨q, hq⟩ : ∃ q, q = putsB startH (l.take n) := ⟨_, rfl⟩
  have M2 := Lib.hid (show MoW w E q w2 by rw [hq]; exact M1.out.step hg2 hgr2)
  have QQ := Lib.hid hq
  have KQ := Lib.hid (show q.ok by rw [hq]; exact putsB_ok startH_ok _)
  have NQ := Lib.hid (show q.n = n by rw [hq, putsB_n, LT.out]; simp [startH])
  clear hg2 hgr2 hq M1
  go_wp2_with fail
  refine (hsum_any true E q KQ.out _ (by rw [NQ.out]; have := NN.out; omega) M2.out.be).mono ?_
  rintro e w3 ⟨rfl, hb3⟩
  obtain ⟨H, hH⟩ : ∃ H, H = sumH (if true = true then q else startH) := ⟨_, rfl⟩
  rw [← hH]
  have HH := Lib.hid (show H = hashL (l.take n) by rw [hH, if_pos rfl, QQ.out]; rfl)
  have HL := Lib.hid (show H.length = 32 by rw [hH, sumH_length])
  have ZB := Lib.hid (show (Try.prog.info? 23).map (·.size) = some (W8 H).size by rw [W8_size, HL.out]; kernel_rfl)
  have M3 := Lib.hid (M2.out.keep hb3)
  clear hb3 hH M2
  go_upto_region 9 with (refine wpList_store_new rfl rfl 23 (.tmp 7) (.tmp 28) rfl (W8 H) rfl rfl ZB.out ?c1 (W8_one _) ?_)
  case c1 => rw [W8_size, HL.out]; rfl
  obtain ⟨M, hM⟩ : ∃ M, M = w3.heap.size := ⟨_, rfl⟩
  rw [← hM]
  have M4 := Lib.hid (show M2W w E q M H (w3.alloc (.cells (W8 H) 23)) from ⟨M3.out.keep ((Below.refl _ _).alloc (Nat.le_refl _) _), ha_new _ _ _ hM, by have := row_lt M3.out.be; omega⟩)
  clear hM M3 hct
  have hcut := HC.out
  go_wp2_with fail
  clear hcut
  refine (write_any true E q KQ.out _ A' (N - n) (c - n) (l.drop n) LD.out (by have := LC.out; omega) (HCR.out.keep M4.out.m.bel) (fun h0 a ea => by have := HCR.out.lt h0 a ea; have := M4.out.m.hE; omega) (by have := NQ.out; omega) M4.out.m.be).mono ?_
  rintro e w5 ⟨rfl, hg5, hgr5⟩
  obtain ⟨t, ht⟩ : ∃ t, t = putsB q (l.drop n) := ⟨_, rfl⟩
  have M5 := Lib.hid (show M2W w E t M H w5 by rw [ht]; exact M4.out.step hg5 hgr5)
  have TT := Lib.hid (show t = putsB startH l by rw [ht, QQ.out, ← putsB_append, List.take_append_drop])
  have KT := Lib.hid (show t.ok by rw [ht]; exact putsB_ok KQ.out _)
  have NT := Lib.hid (show t.n = N by have h1 := putsB_n q (l.drop n); rw [← ht, NQ.out, LD.out] at h1; have := NN.out; omega)
  clear hg5 hgr5 ht M4
  go_upto_region 10 with fail
  have M6 := Lib.hid (M5.out.keep (Below.refl _ _).drew)
  have Z32 := Lib.hid (show (Try.prog.info? 23).map (·.size) = some (W8 H).size by rw [W8_size, HL.out]; kernel_rfl)
  refine wp_region_road (M2W w E t M H) [(true, 0), (true, 1), (true, 2), (true, 3), (false, 4), (true, 5), (true, 6), (true, 7), (true, 9), (false, 8), (false, 10), (true, 11), (true, 12), (true, 13), (true, 14), (true, 15), (true, 16), (true, 17), (true, 18), (true, 19), (true, 22), (false, 20), (false, 21), (false, 23), (true, 24), (true, 25), (true, 26), (true, 27), (true, 29), (true, 30), (true, 31), (false, 28), (true, 32), (true, 33), (true, 34), (false, 35), (true, 36), (true, 37)] (by kernel_rfl) (by kernel_rfl) (fun _ _ d _ _ h => by cases d <;> exact h) ?_
  simp only [List.filterMap_cons, List.filterMap_nil, List.getElem?_toArray, List.getElem?_cons_zero, List.getElem?_cons_succ, Option.map_some]
  refine planG_q (by rfl) (M6.out) (fun W hW => run_load_row 23 (.tmp 7) rfl M rfl 23 (W8 H) (0, 0) _ hW.bm Try.underlying23 rfl Z32.out) ?_
  simp only [Act.put, List.setIfInBounds_toArray, List.set_cons_zero, List.set_cons_succ]
  refine planG_q (v := ?_) (by rfl) (M6.out) ?_ ?_
  rotate_left
  · intro W hW
    go_simp
    with_reducible rfl
  simp only [Act.put, List.setIfInBounds_toArray, List.set_cons_zero, List.set_cons_succ]
  refine planG_q (v := ?_) (by rfl) (M6.out) ?_ ?_
  rotate_left
  · intro W hW
    go_simp
    with_reducible rfl
  simp only [Act.put, List.setIfInBounds_toArray, List.set_cons_zero, List.set_cons_succ]
  refine planG_q (by rfl) (M6.out) (fun W hW => run_cut_to 22 (.tmp 35) (.tmp 36) rfl 5 Try.underlying22 I0.out I2.out A N c n rfl rfl NC.out W) ?_
  simp only [Act.put, List.setIfInBounds_toArray, List.set_cons_zero, List.set_cons_succ]
  refine planG_t (by rfl) (fun K hK => ?_)
  go_simp
  refine (shaSum_any _ A n c (l.take n) LT.out NC.out ((RR.out.keep M6.out.m.bel).take n) (by have := NN.out; omega)).mono ?_
  rintro e w7 ⟨rfl, hb7⟩
  have M7 := Lib.hid (M6.out.keep hb7)
  clear hb7
  refine hK.out _ _ (M7.out) ?_
  clear hK K
  refine planG_q (by rfl) (M7.out) (fun W hW => run_eq_arr_true 23 _ (.tmp 34) (.tmp 38) rfl 5 32 Try.underlying23 Try.underlying5 (by kernel_rfl) (by kernel_rfl) H (hashL (l.take n)) HL.out HH.out rfl rfl W) ?_
  simp only [Act.put, List.setIfInBounds_toArray, List.set_cons_zero, List.set_cons_succ]
  refine planG_q (v := ?_) (by rfl) (M7.out) ?_ ?_
  rotate_left
  · intro W hW
    go_simp
    with_reducible rfl
  simp only [Act.put, List.setIfInBounds_toArray, List.set_cons_zero, List.set_cons_succ]
  refine planG_q (v := ?_) (by rfl) (M7.out) ?_ ?_
  rotate_left
  · intro W hW
    go_simp
    with_reducible rfl
  simp only [Act.put, List.setIfInBounds_toArray, List.set_cons_zero, List.set_cons_succ]
  refine planG_q (v := ?_) (by rfl) (M7.out) ?_ ?_
  rotate_left
  · intro W hW
    go_simp
    with_reducible rfl
  simp only [Act.put, List.setIfInBounds_toArray, List.set_cons_zero, List.set_cons_succ]
  refine planG_t (by rfl) (fun K hK => ?_)
  go_simp
  refine (hsum_any true E t KT.out _ (by rw [NT.out]; omega) M7.out.m.be).mono ?_
  rintro e w8 ⟨rfl, hb8⟩
  obtain ⟨X, hX⟩ : ∃ X, X = sumH (if true = true then t else startH) := ⟨_, rfl⟩
  rw [← hX]
  have XX := Lib.hid (show X = hashL l by rw [hX, if_pos rfl, TT.out]; rfl)
  have XL := Lib.hid (show X.length = 32 by rw [hX, sumH_length])
  have M8 := Lib.hid (M7.out.keep hb8)
  clear hb8 hX
  refine hK.out _ _ (M8.out) ?_
  clear hK K
  refine planG_t (by rfl) (fun K hK => ?_)
  go_simp
  refine (shaSum_any _ A N c l NL.out LC.out (RR.out.keep M8.out.m.bel) (by omega)).mono ?_
  rintro e w9 ⟨rfl, hb9⟩
  have M9 := Lib.hid (M8.out.keep hb9)
  clear hb9
  refine hK.out _ _ (M9.out) ?_
  clear hK K
  refine planG_q (by rfl) (M9.out) (fun W hW => run_eq_arr_true 23 _ (.tmp 42) (.tmp 44) rfl 5 32 Try.underlying23 Try.underlying5 (by kernel_rfl) (by kernel_rfl) X (hashL l) XL.out XX.out rfl rfl W) ?_
  simp only [Act.put, List.setIfInBounds_toArray, List.set_cons_zero, List.set_cons_succ]
  refine planG_q (v := ?_) (by rfl) (M9.out) ?_ ?_
  rotate_left
  · intro W hW
    go_simp
    with_reducible rfl
  simp only [Act.put, List.setIfInBounds_toArray, List.set_cons_zero, List.set_cons_succ]
  refine planG_q (v := ?_) (by rfl) (M9.out) ?_ ?_
  rotate_left
  · intro W hW
    go_simp
    with_reducible rfl
  simp only [Act.put, List.setIfInBounds_toArray, List.set_cons_zero, List.set_cons_succ]
  refine planG_q (v := ?_) (by rfl) (M9.out) ?_ ?_
  rotate_left
  · intro W hW
    go_simp
    with_reducible rfl
  simp only [Act.put, List.setIfInBounds_toArray, List.set_cons_zero, List.set_cons_succ]
  refine planG_q (v := ?_) (by rfl) (M9.out) ?_ ?_
  rotate_left
  · intro W hW
    go_simp
    with_reducible rfl
  simp only [Act.put, List.setIfInBounds_toArray, List.set_cons_zero, List.set_cons_succ]
  refine planG_q (by rfl) (M9.out) (fun W hW => run_cut_to 22 (.tmp 48) (.tmp 49) rfl 5 Try.underlying22 I0.out I2.out A N c n rfl rfl NC.out W) ?_
  simp only [Act.put, List.setIfInBounds_toArray, List.set_cons_zero, List.set_cons_succ]
  refine planG_q (v := ?_) (by rfl) (M9.out) ?_ ?_
  rotate_left
  · intro W hW
    go_simp
    with_reducible rfl
  simp only [Act.put, List.setIfInBounds_toArray, List.set_cons_zero, List.set_cons_succ]
  refine planG_q (v := ?_) (by rfl) (M9.out) ?_ ?_
  rotate_left
  · intro W hW
    go_simp
    with_reducible rfl
  simp only [Act.put, List.setIfInBounds_toArray, List.set_cons_zero, List.set_cons_succ]
  refine planG_q (by rfl) (M9.out) (fun W hW => run_cut_from 22 (.tmp 51) (.tmp 52) rfl Try.underlying22 HC.out rfl rfl W) ?_
  simp only [Act.put, List.setIfInBounds_toArray, List.set_cons_zero, List.set_cons_succ]
  refine planG_q (v := ?_) (by rfl) (M9.out) ?_ ?_
  rotate_left
  · intro W hW
    go_simp
    with_reducible rfl
  simp only [Act.put, List.setIfInBounds_toArray, List.set_cons_zero, List.set_cons_succ]
  refine planG_t (by rfl) (fun K hK => ?_)
  go_simp
  have BA := Lib.hid (show Below w9.heap.size w9 (w9.alloc (.cells #[.slice A n c, .slice none 0 0, .slice A' (N - n) (c - n)] 22)) from (Below.refl _ _).alloc (Nat.le_refl _) _)
  have MA := Lib.hid (M9.out.keep BA.out)
  refine hK.out _ _ (MA.out) ?_
  clear hK K
  refine planG_t (by rfl) (fun K hK => ?_)
  go_simp
  refine (of_any _ (some ⟨w9.heap.size, 0, none⟩) 3 3 [.slice A n c, .slice none 0 0, .slice A' (N - n) (c - n)] [l.take n, [], l.drop n] rfl (RdV.row (t := 22) (fr := (0, 0)) (ha_new w9 _ _ rfl))
    (.cons ⟨A, c, by rw [LT.out], by rw [LT.out]; exact NC.out, (RR.out.keep MA.out.m.bel).take n⟩ (.cons ⟨none, 0, rfl, Nat.le_refl _, RdB.nil _ _⟩ (.cons ⟨A', c - n, by rw [LD.out], by rw [LD.out]; have := LC.out; omega, HCR.out.keep MA.out.m.bel⟩ .nil))) ?o1 (by omega)).mono ?_
  case o1 => rw [show [l.take n, [], l.drop n].flatten = l by simp, NL.out]; omega
  rintro e w10 ⟨rfl, hb10⟩
  have M10 := Lib.hid (MA.out.keep hb10)
  obtain ⟨Y, hY⟩ : ∃ Y, Y = hashL [l.take n, [], l.drop n].flatten := ⟨_, rfl⟩
  rw [← hY]
  have YY := Lib.hid (show Y = hashL l by rw [hY, show [l.take n, [], l.drop n].flatten = l by simp])
  have YL := Lib.hid (show Y.length = 32 by rw [hY, hashL_length])
  clear hb10 hY
  refine hK.out _ _ (M10.out) ?_
  clear hK K
  refine planG_t (by rfl) (fun K hK => ?_)
  go_simp
  refine (shaSum_any _ A N c l NL.out LC.out (RR.out.keep M10.out.m.bel) (by omega)).mono ?_
  rintro e w11 ⟨rfl, hb11⟩
  have M11 := Lib.hid (M10.out.keep hb11)
  clear hb11
  refine hK.out _ _ (M11.out) ?_
  clear hK K
  refine planG_q (by rfl) (M11.out) (fun W hW => run_eq_arr_true 23 _ (.tmp 55) (.tmp 57) rfl 5 32 Try.underlying23 Try.underlying5 (by kernel_rfl) (by kernel_rfl) Y (hashL l) YL.out YY.out rfl rfl W) ?_
  simp only [Act.put, List.setIfInBounds_toArray, List.set_cons_zero, List.set_cons_succ]
  have d1 := u64_of_len N (by omega)
  refine planG_q (v := ?_) (by rfl) (M11.out) ?_ ?_
  rotate_left
  · intro W hW
    go_simp
    with_reducible rfl
  simp only [Act.put, List.setIfInBounds_toArray, List.set_cons_zero, List.set_cons_succ]
  refine planG_q (v := ?_) (by rfl) (M11.out) ?_ ?_
  rotate_left
  · intro W hW
    go_simp
    with_reducible rfl
  simp only [Act.put, List.setIfInBounds_toArray, List.set_cons_zero, List.set_cons_succ]
  refine planG_q (v := ?_) (by rfl) (M11.out) ?_ ?_
  rotate_left
  · intro W hW
    go_simp
    with_reducible rfl
  simp only [Act.put, List.setIfInBounds_toArray, List.set_cons_zero, List.set_cons_succ]
  refine planG_q (v := ?_) (by rfl) (M11.out) ?_ ?_
  rotate_left
  · intro W hW
    go_simp
    with_reducible rfl
  simp only [Act.put, List.setIfInBounds_toArray, List.set_cons_zero, List.set_cons_succ]
  refine planG_q (v := ?_) (by rfl) (M11.out) ?_ ?_
  rotate_left
  · intro W hW
    go_simp
    with_reducible rfl
  simp only [Act.put, List.setIfInBounds_toArray, List.set_cons_zero, List.set_cons_succ]
  refine planG_q (v := ?_) (by rfl) (M11.out) ?_ ?_
  rotate_left
  · intro W hW
    go_simp
    with_reducible rfl
  simp only [Act.put, List.setIfInBounds_toArray, List.set_cons_zero, List.set_cons_succ]
  refine planG_t (by rfl) (fun K hK => ?_)
  go_simp
  refine (len_any true E t KT.out _ M11.out.m.be).mono ?_
  rintro e w12 ⟨rfl, rfl⟩
  rw [NT.out]
  refine hK.out _ _ (M11.out) ?_
  clear hK K
  refine planG_q (v := ?_) (by rfl) (M11.out) ?_ ?_
  rotate_left
  · intro W hW
    go_simp
    with_reducible rfl
  simp only [Act.put, List.setIfInBounds_toArray, List.set_cons_zero, List.set_cons_succ]
  refine planG_q (v := ?_) (by rfl) (M11.out) ?_ ?_
  rotate_left
  · intro W hW
    go_simp
    with_reducible rfl
  simp only [Act.put, List.setIfInBounds_toArray, List.set_cons_zero, List.set_cons_succ]
  refine planG_q (v := ?_) (by rfl) (M11.out) ?_ ?_
  rotate_left
  · intro W hW
    go_simp
    with_reducible rfl
  simp only [Act.put, List.setIfInBounds_toArray, List.set_cons_zero, List.set_cons_succ]
  refine planG_t (by rfl) (fun K hK => ?_)
  go_simp
  refine (shaOne_true _).mono ?_
  rintro e w13 ⟨rfl, hb13⟩
  have M13 := Lib.hid (M11.out.keep hb13)
  refine hK.out _ _ (M13.out) ?_
  clear hK K
  refine planG_q (v := ?_) (by rfl) (M13.out) ?_ ?_
  rotate_left
  · intro W hW
    go_simp
    with_reducible rfl
  simp only [Act.put, List.setIfInBounds_toArray, List.set_cons_zero, List.set_cons_succ]
  refine planG_q (v := ?_) (by rfl) (M13.out) ?_ ?_
  rotate_left
  · intro W hW
    go_simp
    with_reducible rfl
  simp only [Act.put, List.setIfInBounds_toArray, List.set_cons_zero, List.set_cons_succ]
  refine planG_nil ?_
  go_wp2_with fail
  go_ret
  exact ⟨rfl, M13.out.m.bel⟩
end Go.Proofs.Ytpplmogcjjgphaa
