/- The law ShaParts, walked. -/
import Derived.Test.YtpplmogcjjgphaaWalkShaMore
namespace Go.Proofs.Ytpplmogcjjgphaa
set_option linter.unusedVariables false
set_option linter.unusedSimpArgs false
open Go.RowKit
attribute [local go_sem ↓] Go.wp_at_zero Go.wp_at_succ

def zeroH : HSt := ⟨List.replicate 8 0, List.replicate 64 0, 0⟩
theorem zeroH_ok : zeroH.ok := ⟨by simp [zeroH], by simp [zeroH]⟩
theorem run_zerohash {o : Oper} {a : Act} (ho : o.op = .build 42 #[]) (W : World) : (execOp a.eval o).run Try.prog W = .ok (.value (.agg (HBx false zeroH))) W := by
  have h2 : ∀ (g : Operand → Value) (W : World), (execOp g { o with op := .build 42 #[] }).run Try.prog W = .ok (.value (.agg (HBx false zeroH))) W := by
    intro g W
    unfold execOp
    simp only [List.map_toArray, List.map_nil]
    kernel_rfl
  rw [show o = { o with op := .build 42 #[] } by rw [← ho]]
  exact h2 _ W
set_option maxRecDepth 100000 in
set_option maxHeartbeats 4000000 in
theorem shaParts_walk (w : World) (A : Option Addr) (c : Nat) (vs : List Value) (ls : List (List UInt8)) (hR : RdV w A vs) (hc : vs.length ≤ c) (hcm : c ≤ 9223372036854775807) (hall : All2 (SlB w) vs ls) (hlen : ls.length = vs.length) (hmx : ∀ l ∈ ls, l.length ≤ 9223372036854775807) (hz : vs.length ≤ 140737488351232) :
    Calls Try.prog 5 #[.slice A vs.length c] w fun e w' => e = .returned (.bool true) ∧ Below w.heap.size w w' := by
  obtain ⟨n, hn⟩ : ∃ n, n = vs.length := ⟨_, rfl⟩
  rw [← hn] at hc hlen hz ⊢
  have HN := Lib.hid hn.symm
  have HR := Lib.hid hR
  have HA := Lib.hid hall
  have NL := Lib.hid hlen
  have HX := Lib.hid hmx
  obtain ⟨i0, hi, hz0, hz1, hz2⟩ := info_parts (show (Try.prog.info? 5).map (fun i => (i.zero, i.size, i.bytes)) = some (some (.int .u8 0), 1, 1) by kernel_rfl)
  have I0 := Lib.hid hi
  have I2 := Lib.hid hz1
  have TB := Lib.hid (show ByteT Try.prog from ⟨Try.underlying22, by kernel_rfl⟩)
  clear hn hR hall hlen hmx hi hz0 hz1 hz2
  go_enter Try.func5, Try.ntmps5
  go_wp2_with fail
  refine (shaNew_any _).mono ?_
  rintro e w1 ⟨E, rfl, hE, hgE, hb1⟩
  have M1 := Lib.hid (show MoW w E startH w1 from ⟨hgE, hE, hb1⟩)
  clear hE hgE hb1
  go_wp2_with fail
  go_loopw [4, 5] (fun v u wr => ∃ (j : Nat) (acc : List UInt8), j ≤ n ∧ j ≤ 20 ∧ u = .int .i64 (j : Int) ∧ OwnB wr (E + 1) v acc ∧ acc.length ≤ 300 * j ∧ MoW w E (putsB startH acc) wr) (fun _ u _ => n - (intOf u).toNat)
  case atStart => exact ⟨0, [], by omega, by omega, rfl, OwnB.nil _ _, by simp, M1.out⟩
  case round =>
    obtain ⟨j, acc, hj, hj20, rfl, ho, hal, hm⟩ := hrel
    have J := Lib.hid hj
    have J20 := Lib.hid hj20
    have O1 := Lib.hid ho
    have AL := Lib.hid hal
    have M2 := Lib.hid hm
    clear hj hj20 ho hal hm M1
    by_cases hlt : j < n ∧ j < 20
    · obtain ⟨hlt, hlt2⟩ := hlt
      have hD : decide ((j : Int) < (n : Int)) = true := by simp; omega
      have hD2 : decide ((j : Int) < 20) = true := by simp; omega
      obtain ⟨l, hl⟩ : ∃ l, ls[j]? = some l := ⟨_, List.getElem?_eq_getElem (by rw [NL.out]; exact hlt)⟩
      obtain ⟨v, hv, A', c', rfl, hc', hR'⟩ := HA.out.get j l hl
      obtain ⟨b, o, rfl, hcell⟩ := (HR.out.keep M2.out.bel) j _ hv
      have LX := HX.out l (List.mem_of_getElem? hl)
      obtain ⟨m, hm⟩ : ∃ m, m = l.length := ⟨_, rfl⟩
      rw [← hm] at hcell hc' LX
      have LE := Lib.hid hm.symm
      have R1 := Lib.hid hR'
      have C1 := Lib.hid hc'
      have lx : (m : Int) ≤ 9223372036854775807 := by omega
      clear hl hv hc' hR' hm LX
      go_upto_if 29 with fail
      clear hcell
      go_cut [6] (fun u wx => ∃ x : List UInt8, u = .slice A' x.length c' ∧ x.length ≤ 300 ∧ x.length ≤ c' ∧ RdB w A' x ∧ wx = wr)
      case first =>
        by_cases h3 : 300 < m
        · have hE : decide ((300 : Int) < (m : Int)) = true := by simp; omega
          have hcut := cut_to (P := Try.prog) 22 5 Try.underlying22 I0.out I2.out A' m c' 300 (by have := C1.out; omega)
          have b3 : (300 : Int) ≤ (c' : Int) := by have := C1.out; omega
          go_wp2_with fail
          go_meet
          have e3 : (l.take 300).length = 300 := by have := LE.out; rw [List.length_take]; omega
          exact ⟨l.take 300, by rw [e3], by omega, by have := C1.out; omega, R1.out.take _, rfl⟩
        · have hE : decide ((300 : Int) < (m : Int)) = false := by simp; omega
          go_wp2_with fail
          go_meet
          exact ⟨l, by rw [LE.out], by have := LE.out; omega, by rw [LE.out]; exact C1.out, R1.out, rfl⟩
      case rest =>
      obtain ⟨x, rfl, hx3, hxc, hxR, rfl⟩ := hcut
      obtain ⟨k, hk⟩ : ∃ k, k = x.length := ⟨_, rfl⟩
      rw [← hk] at hx3 hxc ⊢
      have KE := Lib.hid hk.symm
      have XC := Lib.hid hxc
      have XR := Lib.hid hxR
      have KQ := Lib.hid (putsB_ok startH_ok acc)
      have NQ := Lib.hid (putsB_n startH acc)
      clear hk hxc hxR R1 C1 lx
      go_wp2_with fail
      refine (write_any true E (putsB startH acc) KQ.out _ A' k c' x KE.out XC.out (XR.out.keep M2.out.bel) (fun h0 a ea => by have := XR.out.lt h0 a ea; have := M2.out.hE; omega) (by rw [NQ.out]; have := AL.out; simp [startH]; omega) M2.out.be).mono ?_
      rintro e w2 ⟨rfl, hg2, hgr2⟩
      have M3 := Lib.hid (show MoW w E (putsB startH (acc ++ x)) w2 by rw [putsB_append]; exact M2.out.step hg2 hgr2)
      have O2 := Lib.hid (O1.out.grown hgr2 (.inr (fun e => by have := (O1.out.lt _ e).1; omega)))
      clear hg2 hgr2 M2 O1
      go_wp2_with (refine app_list rfl TB.out (.tmp 35) (.tmp 36) rfl (E + 1) u4 acc x A' k c' rfl rfl KE.out O2.out (XR.out.keep M3.out.bel) (by have := row_lt M3.out.be; omega) (by have := AL.out; omega) ?_)
      intro v1 w3 ho hg _
      have M4 := Lib.hid (show MoW w E (putsB startH (acc ++ x)) w3 from
        ⟨grown_block hg (fun e => by have := (O2.out.lt E e.symm).1; omega) M3.out.be, M3.out.hE, M3.out.bel.trans (grown_below hg M3.out.bel.size (fun g e => by have := (O2.out.lt g e).1; have := M3.out.hE; omega))⟩)
      obtain ⟨A4, c4, rfl, hr4, hl4, _, _⟩ := ho.read
      obtain ⟨t, ht⟩ : ∃ t, t = acc ++ x := ⟨_, rfl⟩
      rw [← ht] at ho hr4 hl4 M4 ⊢
      obtain ⟨q, hq⟩ : ∃ q, q = t.length := ⟨_, rfl⟩
      rw [← hq] at hl4 ⊢
      have O4 := Lib.hid ho
      have QE := Lib.hid hq.symm
      have QB := Lib.hid (show q ≤ 300 * (j + 1) by rw [hq, ht, List.length_append, KE.out]; have := AL.out; omega)
      have L4 := Lib.hid hl4
      have R4 := Lib.hid hr4
      have KT := Lib.hid (putsB_ok startH_ok t)
      have NT := Lib.hid (show (putsB startH t).n = q by rw [putsB_n, hq]; simp [startH])
      clear ho hg hr4 hl4 ht hq M3 O2
      go_wp2_with fail
      refine (hsum_any true E (putsB startH t) KT.out _ (by rw [NT.out]; have := QB.out; omega) M4.out.be).mono ?_
      rintro e w4 ⟨rfl, hb4⟩
      obtain ⟨X, hX⟩ : ∃ X, X = sumH (if true = true then putsB startH t else startH) := ⟨_, rfl⟩
      rw [← hX]
      have XX := Lib.hid (show X = hashL t by rw [hX, if_pos rfl]; rfl)
      have XL := Lib.hid (show X.length = 32 by rw [hX, sumH_length])
      have M5 := Lib.hid (M4.out.keep hb4)
      have O5 := Lib.hid (O4.out.below hb4)
      have R5 := Lib.hid (R4.out.keep hb4)
      clear hb4 hX M4 O4 R4
      go_wp2_with fail
      refine (shaSum_any _ A4 q c4 t QE.out L4.out R5.out (by have := QB.out; omega)).mono ?_
      rintro e w5 ⟨rfl, hb5⟩
      have M6 := Lib.hid (M5.out.keep hb5)
      have O6 := Lib.hid (O5.out.below hb5)
      clear hb5 M5 O5 R5
      go_wp2_with (refine wpList_val rfl (run_neq_arr_false 23 _ (.tmp 39) (.tmp 41) rfl 5 32 Try.underlying23 Try.underlying5 (by kernel_rfl) (by kernel_rfl) X (hashL t) XL.out XX.out rfl rfl _) ?_)
      have e1 := u64_of_len q (by have := QB.out; omega)
      go_wp2_with fail
      refine (len_any true E (putsB startH t) KT.out _ M6.out.be).mono ?_
      rintro e w6 ⟨rfl, rfl⟩
      rw [NT.out]
      go_wp2_with fail
      go_roundw
      case rel => exact ⟨j + 1, t, by omega, by omega, by go_num, by have := O6.out; rw [QE.out] at this; exact this, by rw [QE.out]; exact QB.out, M6.out⟩
      case measure => simp [intOf]; omega
    · have J6 := Lib.hid (show acc.length ≤ 6000 by have := AL.out; have := J20.out; omega)
      obtain ⟨A4, c4, rfl, hr4, hl4, _, _⟩ := O1.out.read
      obtain ⟨q, hq⟩ : ∃ q, q = acc.length := ⟨_, rfl⟩
      rw [← hq] at hl4 ⊢
      have QE := Lib.hid hq.symm
      have L4 := Lib.hid hl4
      have R4 := Lib.hid hr4
      have B4 := Lib.hid M2.out.bel
      clear hr4 hl4 hq M2 O1
      by_cases h1 : j < n
      · have hD : decide ((j : Int) < (n : Int)) = true := by simp; omega
        have h2 : ¬ j < 20 := by omega
        have hE : decide ((j : Int) < 20) = false := by simp; omega
        clear hlt
        go_wp2_with fail
        refine (write_nil _ _).mono ?_
        rintro e w2 ⟨rfl, rfl⟩
        go_upto_region 18 with (refine wpList_val rfl (run_zerohash rfl _) ?_)
        obtain ⟨P, hP⟩ : ∃ P, P = w2.heap.size := ⟨_, rfl⟩
        obtain ⟨w3, hw3⟩ : ∃ w3, w3 = w2.alloc (.cells (HBx false zeroH) 42) := ⟨_, rfl⟩
        have hb3 : Below w2.heap.size w2 w3 := by rw [hw3]; exact (Below.refl _ _).alloc (Nat.le_refl _) _
        have P3 := Lib.hid (show w3.heap[P]? = some (.cells (HBx false zeroH) 42 (0, 0)) by rw [hw3]; exact ha_new _ _ _ hP)
        have B3 := Lib.hid (B4.out.trans (hb3.mono B4.out.size))
        have R3 := Lib.hid (R4.out.keep hb3)
        have PL := Lib.hid (show w.heap.size ≤ P by rw [hP]; exact B4.out.size)
        have RP := Lib.hid (show acc ≠ [] → ∀ a, A4 = some a → a.block ≠ P from fun h0 a ea => by have := R4.out.lt h0 a ea; omega)
        rw [← hw3, ← hP]
        clear hw3 hP hb3 B4 R4
        go_wp2_with fail
        refine (hsum_any false P zeroH zeroH_ok _ (by simp [zeroH]) P3.out).mono ?_
        rintro e w4 ⟨rfl, hb4⟩
        obtain ⟨H, hH⟩ : ∃ H, H = sumH (if false = true then zeroH else startH) := ⟨_, rfl⟩
        rw [← hH]
        have HH := Lib.hid (show H = hashL [] by rw [hH, if_neg (by simp)]; rfl)
        have HL := Lib.hid (show H.length = 32 by rw [hH, sumH_length])
        have P4 := Lib.hid (below_block hb4 (row_lt P3.out) P3.out)
        have R4 := Lib.hid (R3.out.keep hb4)
        have B4 := Lib.hid (B3.out.trans (hb4.mono B3.out.size))
        have ZB := Lib.hid (show (Try.prog.info? 23).map (·.size) = some (W8 H).size by rw [W8_size, HL.out]; kernel_rfl)
        clear hb4 hH P3 R3 B3
        go_upto_region 19 with (refine wpList_store_new rfl rfl 23 (.tmp 9) (.tmp 57) rfl (W8 H) rfl rfl ZB.out (by rw [W8_size, HL.out]; rfl) (W8_one _) ?_)
        obtain ⟨M, hM⟩ : ∃ M, M = w4.heap.size := ⟨_, rfl⟩
        obtain ⟨w5, hw5⟩ : ∃ w5, w5 = w4.alloc (.cells (W8 H) 23) := ⟨_, rfl⟩
        have hb5 : Below w4.heap.size w4 w5 := by rw [hw5]; exact (Below.refl _ _).alloc (Nat.le_refl _) _
        have P5 := Lib.hid (below_block hb5 (row_lt P4.out) P4.out)
        have M5 := Lib.hid (show w5.heap[M]? = some (.cells (W8 H) 23 (0, 0)) by rw [hw5]; exact ha_new _ _ _ hM)
        have MP := Lib.hid (show M ≠ P by have := row_lt P4.out; omega)
        have R5 := Lib.hid (R4.out.keep hb5)
        have B5 := Lib.hid (B4.out.trans (hb5.mono B4.out.size))
        rw [← hw5, ← hM]
        clear hw5 hM hb5 P4 R4 B4
        go_wp2_with fail
        refine (write_any false P zeroH zeroH_ok _ A4 q c4 acc QE.out L4.out R5.out RP.out (by have := J6.out; have := QE.out; simp [zeroH]; omega) P5.out).mono ?_
        rintro e w6 ⟨rfl, hg6, hgr6⟩
        obtain ⟨t, ht⟩ : ∃ t, t = putsB (stOf false zeroH) acc := ⟨_, rfl⟩
        rw [← ht] at hg6
        have TT := Lib.hid (show t = putsB startH acc by rw [ht]; rfl)
        have KT := Lib.hid (show t.ok by rw [TT.out]; exact putsB_ok startH_ok _)
        have NT := Lib.hid (show t.n = q by rw [TT.out, putsB_n, QE.out]; simp [startH])
        have M6 := Lib.hid (show M2W w P t M H w6 from ⟨⟨hg6, PL.out, B5.out.trans (grown_below hgr6 B5.out.size (by rintro g ⟨⟩; exact PL.out))⟩, grown_block hgr6 (by intro e; injection e with e; exact MP.out e) M5.out, MP.out⟩)
        have R6 := Lib.hid (R5.out.grow hgr6 RP.out)
        clear hg6 hgr6 ht M5 P5 R5 B5
        go_upto_region 20 with fail
        have M7 := Lib.hid (M6.out.keep (Below.refl _ _).drew)
        have R7 := Lib.hid (show RdB w6.drew A4 acc from R6.out)
        clear M6 R6
        refine wp_region_road (M2W w P t M H) [(true, 0), (false, 1), (false, 2), (true, 3), (true, 4), (true, 5), (false, 6), (true, 7), (true, 8), (true, 9), (true, 10), (false, 11), (true, 12), (true, 13), (true, 14), (true, 15), (true, 17), (false, 16), (false, 18), (true, 19), (true, 20), (true, 21), (false, 22), (true, 23), (true, 24)] (by kernel_rfl) (by kernel_rfl) (fun _ _ d _ _ h => by cases d <;> exact h) ?_
        simp only [List.filterMap_cons, List.filterMap_nil, List.getElem?_toArray, List.getElem?_cons_zero, List.getElem?_cons_succ, Option.map_some]
        refine planG_q (v := ?_) (by rfl) (M7.out) ?_ ?_
        rotate_left
        · intro W hW
          go_simp
          with_reducible rfl
        simp only [Act.put, List.setIfInBounds_toArray, List.set_cons_zero, List.set_cons_succ]
        refine planG_t (by rfl) (fun K hK => ?_)
        go_simp
        refine (hsum_nil _).mono ?_
        rintro e w7 ⟨rfl, hb7⟩
        obtain ⟨Y, hY⟩ : ∃ Y, Y = sumH startH := ⟨_, rfl⟩
        rw [← hY]
        have YY := Lib.hid (show Y = hashL [] from hY)
        have YL := Lib.hid (show Y.length = 32 by rw [hY, sumH_length])
        have M8 := Lib.hid (M7.out.keep hb7)
        have R8 := Lib.hid (R7.out.keep hb7)
        clear hb7 hY M7 R7
        refine hK.out _ _ (M8.out) ?_
        clear hK K
        refine planG_t (by rfl) (fun K hK => ?_)
        go_simp
        refine (shaSum_any _ none 0 0 [] rfl (Nat.le_refl _) (RdB.nil _ _) (by omega)).mono ?_
        rintro e w8 ⟨rfl, hb8⟩
        have M9 := Lib.hid (M8.out.keep hb8)
        have R9 := Lib.hid (R8.out.keep hb8)
        clear hb8 M8 R8
        refine hK.out _ _ (M9.out) ?_
        clear hK K
        refine planG_q (by rfl) (M9.out) (fun W hW => run_eq_arr_true 23 _ (.tmp 62) (.tmp 63) rfl 5 32 Try.underlying23 Try.underlying5 (by kernel_rfl) (by kernel_rfl) Y (hashL []) YL.out YY.out rfl rfl W) ?_
        simp only [Act.put, List.setIfInBounds_toArray, List.set_cons_zero, List.set_cons_succ]
        refine planG_q (v := ?_) (by rfl) (M9.out) ?_ ?_
        rotate_left
        · intro W hW
          go_simp
          with_reducible rfl
        simp only [Act.put, List.setIfInBounds_toArray, List.set_cons_zero, List.set_cons_succ]
        refine planG_q (v := ?_) (by rfl) (M9.out) ?_ ?_
        rotate_left
        · intro W hW
          go_simp
          with_reducible rfl
        simp only [Act.put, List.setIfInBounds_toArray, List.set_cons_zero, List.set_cons_succ]
        refine planG_t (by rfl) (fun K hK => ?_)
        go_simp
        refine (len_nil _).mono ?_
        rintro e w9 ⟨rfl, rfl⟩
        refine hK.out _ _ (M9.out) ?_
        clear hK K
        refine planG_q (v := ?_) (by rfl) (M9.out) ?_ ?_
        rotate_left
        · intro W hW
          go_simp
          with_reducible rfl
        simp only [Act.put, List.setIfInBounds_toArray, List.set_cons_zero, List.set_cons_succ]
        refine planG_q (v := ?_) (by rfl) (M9.out) ?_ ?_
        rotate_left
        · intro W hW
          go_simp
          with_reducible rfl
        simp only [Act.put, List.setIfInBounds_toArray, List.set_cons_zero, List.set_cons_succ]
        refine planG_q (v := ?_) (by rfl) (M9.out) ?_ ?_
        rotate_left
        · intro W hW
          go_simp
          with_reducible rfl
        simp only [Act.put, List.setIfInBounds_toArray, List.set_cons_zero, List.set_cons_succ]
        refine planG_q (by rfl) (M9.out) (fun W hW => run_load_row 23 (.tmp 9) rfl M rfl 23 (W8 H) (0, 0) _ hW.bm Try.underlying23 rfl ZB.out) ?_
        simp only [Act.put, List.setIfInBounds_toArray, List.set_cons_zero, List.set_cons_succ]
        refine planG_t (by rfl) (fun K hK => ?_)
        go_simp
        refine (shaSum_any _ none 0 0 [] rfl (Nat.le_refl _) (RdB.nil _ _) (by omega)).mono ?_
        rintro e w10 ⟨rfl, hb10⟩
        have M10 := Lib.hid (M9.out.keep hb10)
        have R10 := Lib.hid (R9.out.keep hb10)
        clear hb10 M9 R9
        refine hK.out _ _ (M10.out) ?_
        clear hK K
        refine planG_q (by rfl) (M10.out) (fun W hW => run_eq_arr_true 23 _ (.tmp 71) (.tmp 72) rfl 5 32 Try.underlying23 Try.underlying5 (by kernel_rfl) (by kernel_rfl) H (hashL []) HL.out HH.out rfl rfl W) ?_
        simp only [Act.put, List.setIfInBounds_toArray, List.set_cons_zero, List.set_cons_succ]
        refine planG_q (v := ?_) (by rfl) (M10.out) ?_ ?_
        rotate_left
        · intro W hW
          go_simp
          with_reducible rfl
        simp only [Act.put, List.setIfInBounds_toArray, List.set_cons_zero, List.set_cons_succ]
        refine planG_q (v := ?_) (by rfl) (M10.out) ?_ ?_
        rotate_left
        · intro W hW
          go_simp
          with_reducible rfl
        simp only [Act.put, List.setIfInBounds_toArray, List.set_cons_zero, List.set_cons_succ]
        refine planG_q (v := ?_) (by rfl) (M10.out) ?_ ?_
        rotate_left
        · intro W hW
          go_simp
          with_reducible rfl
        simp only [Act.put, List.setIfInBounds_toArray, List.set_cons_zero, List.set_cons_succ]
        refine planG_q (v := ?_) (by rfl) (M10.out) ?_ ?_
        rotate_left
        · intro W hW
          go_simp
          with_reducible rfl
        simp only [Act.put, List.setIfInBounds_toArray, List.set_cons_zero, List.set_cons_succ]
        refine planG_t (by rfl) (fun K hK => ?_)
        go_simp
        refine (hsum_any true P t KT.out _ (by rw [NT.out]; have := J6.out; have := QE.out; omega) M10.out.m.be).mono ?_
        rintro e w11 ⟨rfl, hb11⟩
        obtain ⟨X, hX⟩ : ∃ X, X = sumH (if true = true then t else startH) := ⟨_, rfl⟩
        rw [← hX]
        have XX := Lib.hid (show X = hashL acc by rw [hX, if_pos rfl, TT.out]; rfl)
        have XL := Lib.hid (show X.length = 32 by rw [hX, sumH_length])
        have M11 := Lib.hid (M10.out.keep hb11)
        have R11 := Lib.hid (R10.out.keep hb11)
        clear hb11 hX M10 R10
        refine hK.out _ _ (M11.out) ?_
        clear hK K
        refine planG_t (by rfl) (fun K hK => ?_)
        go_simp
        refine (shaSum_any _ A4 q c4 acc QE.out L4.out R11.out (by have := J6.out; have := QE.out; omega)).mono ?_
        rintro e w12 ⟨rfl, hb12⟩
        have M12 := Lib.hid (M11.out.keep hb12)
        clear hb12 M11 R11
        refine hK.out _ _ (M12.out) ?_
        clear hK K
        refine planG_q (by rfl) (M12.out) (fun W hW => run_eq_arr_true 23 _ (.tmp 77) (.tmp 79) rfl 5 32 Try.underlying23 Try.underlying5 (by kernel_rfl) (by kernel_rfl) X (hashL acc) XL.out XX.out rfl rfl W) ?_
        simp only [Act.put, List.setIfInBounds_toArray, List.set_cons_zero, List.set_cons_succ]
        refine planG_q (v := ?_) (by rfl) (M12.out) ?_ ?_
        rotate_left
        · intro W hW
          go_simp
          with_reducible rfl
        simp only [Act.put, List.setIfInBounds_toArray, List.set_cons_zero, List.set_cons_succ]
        refine planG_q (v := ?_) (by rfl) (M12.out) ?_ ?_
        rotate_left
        · intro W hW
          go_simp
          with_reducible rfl
        simp only [Act.put, List.setIfInBounds_toArray, List.set_cons_zero, List.set_cons_succ]
        refine planG_t (by rfl) (fun K hK => ?_)
        go_simp
        refine (shaOne_true _).mono ?_
        rintro e w13 ⟨rfl, hb13⟩
        have M13 := Lib.hid (M12.out.keep hb13)
        refine hK.out _ _ (M13.out) ?_
        clear hK K
        refine planG_q (v := ?_) (by rfl) (M13.out) ?_ ?_
        rotate_left
        · intro W hW
          go_simp
          with_reducible rfl
        simp only [Act.put, List.setIfInBounds_toArray, List.set_cons_zero, List.set_cons_succ]
        refine planG_q (v := ?_) (by rfl) (M13.out) ?_ ?_
        rotate_left
        · intro W hW
          go_simp
          with_reducible rfl
        simp only [Act.put, List.setIfInBounds_toArray, List.set_cons_zero, List.set_cons_succ]
        refine planG_nil ?_
        go_wp2_with fail
        go_ret
        exact ⟨rfl, M13.out.m.bel⟩
      · have hD : decide ((j : Int) < (n : Int)) = false := by simp; omega
        clear hlt
        go_wp2_with fail
        refine (write_nil _ _).mono ?_
        rintro e w2 ⟨rfl, rfl⟩
        go_upto_region 18 with (refine wpList_val rfl (run_zerohash rfl _) ?_)
        obtain ⟨P, hP⟩ : ∃ P, P = w2.heap.size := ⟨_, rfl⟩
        obtain ⟨w3, hw3⟩ : ∃ w3, w3 = w2.alloc (.cells (HBx false zeroH) 42) := ⟨_, rfl⟩
        have hb3 : Below w2.heap.size w2 w3 := by rw [hw3]; exact (Below.refl _ _).alloc (Nat.le_refl _) _
        have P3 := Lib.hid (show w3.heap[P]? = some (.cells (HBx false zeroH) 42 (0, 0)) by rw [hw3]; exact ha_new _ _ _ hP)
        have B3 := Lib.hid (B4.out.trans (hb3.mono B4.out.size))
        have R3 := Lib.hid (R4.out.keep hb3)
        have PL := Lib.hid (show w.heap.size ≤ P by rw [hP]; exact B4.out.size)
        have RP := Lib.hid (show acc ≠ [] → ∀ a, A4 = some a → a.block ≠ P from fun h0 a ea => by have := R4.out.lt h0 a ea; omega)
        rw [← hw3, ← hP]
        clear hw3 hP hb3 B4 R4
        go_wp2_with fail
        refine (hsum_any false P zeroH zeroH_ok _ (by simp [zeroH]) P3.out).mono ?_
        rintro e w4 ⟨rfl, hb4⟩
        obtain ⟨H, hH⟩ : ∃ H, H = sumH (if false = true then zeroH else startH) := ⟨_, rfl⟩
        rw [← hH]
        have HH := Lib.hid (show H = hashL [] by rw [hH, if_neg (by simp)]; rfl)
        have HL := Lib.hid (show H.length = 32 by rw [hH, sumH_length])
        have P4 := Lib.hid (below_block hb4 (row_lt P3.out) P3.out)
        have R4 := Lib.hid (R3.out.keep hb4)
        have B4 := Lib.hid (B3.out.trans (hb4.mono B3.out.size))
        have ZB := Lib.hid (show (Try.prog.info? 23).map (·.size) = some (W8 H).size by rw [W8_size, HL.out]; kernel_rfl)
        clear hb4 hH P3 R3 B3
        go_upto_region 19 with (refine wpList_store_new rfl rfl 23 (.tmp 9) (.tmp 57) rfl (W8 H) rfl rfl ZB.out (by rw [W8_size, HL.out]; rfl) (W8_one _) ?_)
        obtain ⟨M, hM⟩ : ∃ M, M = w4.heap.size := ⟨_, rfl⟩
        obtain ⟨w5, hw5⟩ : ∃ w5, w5 = w4.alloc (.cells (W8 H) 23) := ⟨_, rfl⟩
        have hb5 : Below w4.heap.size w4 w5 := by rw [hw5]; exact (Below.refl _ _).alloc (Nat.le_refl _) _
        have P5 := Lib.hid (below_block hb5 (row_lt P4.out) P4.out)
        have M5 := Lib.hid (show w5.heap[M]? = some (.cells (W8 H) 23 (0, 0)) by rw [hw5]; exact ha_new _ _ _ hM)
        have MP := Lib.hid (show M ≠ P by have := row_lt P4.out; omega)
        have R5 := Lib.hid (R4.out.keep hb5)
        have B5 := Lib.hid (B4.out.trans (hb5.mono B4.out.size))
        rw [← hw5, ← hM]
        clear hw5 hM hb5 P4 R4 B4
        go_wp2_with fail
        refine (write_any false P zeroH zeroH_ok _ A4 q c4 acc QE.out L4.out R5.out RP.out (by have := J6.out; have := QE.out; simp [zeroH]; omega) P5.out).mono ?_
        rintro e w6 ⟨rfl, hg6, hgr6⟩
        obtain ⟨t, ht⟩ : ∃ t, t = putsB (stOf false zeroH) acc := ⟨_, rfl⟩
        rw [← ht] at hg6
        have TT := Lib.hid (show t = putsB startH acc by rw [ht]; rfl)
        have KT := Lib.hid (show t.ok by rw [TT.out]; exact putsB_ok startH_ok _)
        have NT := Lib.hid (show t.n = q by rw [TT.out, putsB_n, QE.out]; simp [startH])
        have M6 := Lib.hid (show M2W w P t M H w6 from ⟨⟨hg6, PL.out, B5.out.trans (grown_below hgr6 B5.out.size (by rintro g ⟨⟩; exact PL.out))⟩, grown_block hgr6 (by intro e; injection e with e; exact MP.out e) M5.out, MP.out⟩)
        have R6 := Lib.hid (R5.out.grow hgr6 RP.out)
        clear hg6 hgr6 ht M5 P5 R5 B5
        go_upto_region 20 with fail
        have M7 := Lib.hid (M6.out.keep (Below.refl _ _).drew)
        have R7 := Lib.hid (show RdB w6.drew A4 acc from R6.out)
        clear M6 R6
        refine wp_region_road (M2W w P t M H) [(true, 0), (false, 1), (false, 2), (true, 3), (true, 4), (true, 5), (false, 6), (true, 7), (true, 8), (true, 9), (true, 10), (false, 11), (true, 12), (true, 13), (true, 14), (true, 15), (true, 17), (false, 16), (false, 18), (true, 19), (true, 20), (true, 21), (false, 22), (true, 23), (true, 24)] (by kernel_rfl) (by kernel_rfl) (fun _ _ d _ _ h => by cases d <;> exact h) ?_
        simp only [List.filterMap_cons, List.filterMap_nil, List.getElem?_toArray, List.getElem?_cons_zero, List.getElem?_cons_succ, Option.map_some]
        refine planG_q (v := ?_) (by rfl) (M7.out) ?_ ?_
        rotate_left
        · intro W hW
          go_simp
          with_reducible rfl
        simp only [Act.put, List.setIfInBounds_toArray, List.set_cons_zero, List.set_cons_succ]
        refine planG_t (by rfl) (fun K hK => ?_)
        go_simp
        refine (hsum_nil _).mono ?_
        rintro e w7 ⟨rfl, hb7⟩
        obtain ⟨Y, hY⟩ : ∃ Y, Y = sumH startH := ⟨_, rfl⟩
        rw [← hY]
        have YY := Lib.hid (show Y = hashL [] from hY)
        have YL := Lib.hid (show Y.length = 32 by rw [hY, sumH_length])
        have M8 := Lib.hid (M7.out.keep hb7)
        have R8 := Lib.hid (R7.out.keep hb7)
        clear hb7 hY M7 R7
        refine hK.out _ _ (M8.out) ?_
        clear hK K
        refine planG_t (by rfl) (fun K hK => ?_)
        go_simp
        refine (shaSum_any _ none 0 0 [] rfl (Nat.le_refl _) (RdB.nil _ _) (by omega)).mono ?_
        rintro e w8 ⟨rfl, hb8⟩
        have M9 := Lib.hid (M8.out.keep hb8)
        have R9 := Lib.hid (R8.out.keep hb8)
        clear hb8 M8 R8
        refine hK.out _ _ (M9.out) ?_
        clear hK K
        refine planG_q (by rfl) (M9.out) (fun W hW => run_eq_arr_true 23 _ (.tmp 62) (.tmp 63) rfl 5 32 Try.underlying23 Try.underlying5 (by kernel_rfl) (by kernel_rfl) Y (hashL []) YL.out YY.out rfl rfl W) ?_
        simp only [Act.put, List.setIfInBounds_toArray, List.set_cons_zero, List.set_cons_succ]
        refine planG_q (v := ?_) (by rfl) (M9.out) ?_ ?_
        rotate_left
        · intro W hW
          go_simp
          with_reducible rfl
        simp only [Act.put, List.setIfInBounds_toArray, List.set_cons_zero, List.set_cons_succ]
        refine planG_q (v := ?_) (by rfl) (M9.out) ?_ ?_
        rotate_left
        · intro W hW
          go_simp
          with_reducible rfl
        simp only [Act.put, List.setIfInBounds_toArray, List.set_cons_zero, List.set_cons_succ]
        refine planG_t (by rfl) (fun K hK => ?_)
        go_simp
        refine (len_nil _).mono ?_
        rintro e w9 ⟨rfl, rfl⟩
        refine hK.out _ _ (M9.out) ?_
        clear hK K
        refine planG_q (v := ?_) (by rfl) (M9.out) ?_ ?_
        rotate_left
        · intro W hW
          go_simp
          with_reducible rfl
        simp only [Act.put, List.setIfInBounds_toArray, List.set_cons_zero, List.set_cons_succ]
        refine planG_q (v := ?_) (by rfl) (M9.out) ?_ ?_
        rotate_left
        · intro W hW
          go_simp
          with_reducible rfl
        simp only [Act.put, List.setIfInBounds_toArray, List.set_cons_zero, List.set_cons_succ]
        refine planG_q (v := ?_) (by rfl) (M9.out) ?_ ?_
        rotate_left
        · intro W hW
          go_simp
          with_reducible rfl
        simp only [Act.put, List.setIfInBounds_toArray, List.set_cons_zero, List.set_cons_succ]
        refine planG_q (by rfl) (M9.out) (fun W hW => run_load_row 23 (.tmp 9) rfl M rfl 23 (W8 H) (0, 0) _ hW.bm Try.underlying23 rfl ZB.out) ?_
        simp only [Act.put, List.setIfInBounds_toArray, List.set_cons_zero, List.set_cons_succ]
        refine planG_t (by rfl) (fun K hK => ?_)
        go_simp
        refine (shaSum_any _ none 0 0 [] rfl (Nat.le_refl _) (RdB.nil _ _) (by omega)).mono ?_
        rintro e w10 ⟨rfl, hb10⟩
        have M10 := Lib.hid (M9.out.keep hb10)
        have R10 := Lib.hid (R9.out.keep hb10)
        clear hb10 M9 R9
        refine hK.out _ _ (M10.out) ?_
        clear hK K
        refine planG_q (by rfl) (M10.out) (fun W hW => run_eq_arr_true 23 _ (.tmp 71) (.tmp 72) rfl 5 32 Try.underlying23 Try.underlying5 (by kernel_rfl) (by kernel_rfl) H (hashL []) HL.out HH.out rfl rfl W) ?_
        simp only [Act.put, List.setIfInBounds_toArray, List.set_cons_zero, List.set_cons_succ]
        refine planG_q (v := ?_) (by rfl) (M10.out) ?_ ?_
        rotate_left
        · intro W hW
          go_simp
          with_reducible rfl
        simp only [Act.put, List.setIfInBounds_toArray, List.set_cons_zero, List.set_cons_succ]
        refine planG_q (v := ?_) (by rfl) (M10.out) ?_ ?_
        rotate_left
        · intro W hW
          go_simp
          with_reducible rfl
        simp only [Act.put, List.setIfInBounds_toArray, List.set_cons_zero, List.set_cons_succ]
        refine planG_q (v := ?_) (by rfl) (M10.out) ?_ ?_
        rotate_left
        · intro W hW
          go_simp
          with_reducible rfl
        simp only [Act.put, List.setIfInBounds_toArray, List.set_cons_zero, List.set_cons_succ]
        refine planG_q (v := ?_) (by rfl) (M10.out) ?_ ?_
        rotate_left
        · intro W hW
          go_simp
          with_reducible rfl
        simp only [Act.put, List.setIfInBounds_toArray, List.set_cons_zero, List.set_cons_succ]
        refine planG_t (by rfl) (fun K hK => ?_)
        go_simp
        refine (hsum_any true P t KT.out _ (by rw [NT.out]; have := J6.out; have := QE.out; omega) M10.out.m.be).mono ?_
        rintro e w11 ⟨rfl, hb11⟩
        obtain ⟨X, hX⟩ : ∃ X, X = sumH (if true = true then t else startH) := ⟨_, rfl⟩
        rw [← hX]
        have XX := Lib.hid (show X = hashL acc by rw [hX, if_pos rfl, TT.out]; rfl)
        have XL := Lib.hid (show X.length = 32 by rw [hX, sumH_length])
        have M11 := Lib.hid (M10.out.keep hb11)
        have R11 := Lib.hid (R10.out.keep hb11)
        clear hb11 hX M10 R10
        refine hK.out _ _ (M11.out) ?_
        clear hK K
        refine planG_t (by rfl) (fun K hK => ?_)
        go_simp
        refine (shaSum_any _ A4 q c4 acc QE.out L4.out R11.out (by have := J6.out; have := QE.out; omega)).mono ?_
        rintro e w12 ⟨rfl, hb12⟩
        have M12 := Lib.hid (M11.out.keep hb12)
        clear hb12 M11 R11
        refine hK.out _ _ (M12.out) ?_
        clear hK K
        refine planG_q (by rfl) (M12.out) (fun W hW => run_eq_arr_true 23 _ (.tmp 77) (.tmp 79) rfl 5 32 Try.underlying23 Try.underlying5 (by kernel_rfl) (by kernel_rfl) X (hashL acc) XL.out XX.out rfl rfl W) ?_
        simp only [Act.put, List.setIfInBounds_toArray, List.set_cons_zero, List.set_cons_succ]
        refine planG_q (v := ?_) (by rfl) (M12.out) ?_ ?_
        rotate_left
        · intro W hW
          go_simp
          with_reducible rfl
        simp only [Act.put, List.setIfInBounds_toArray, List.set_cons_zero, List.set_cons_succ]
        refine planG_q (v := ?_) (by rfl) (M12.out) ?_ ?_
        rotate_left
        · intro W hW
          go_simp
          with_reducible rfl
        simp only [Act.put, List.setIfInBounds_toArray, List.set_cons_zero, List.set_cons_succ]
        refine planG_t (by rfl) (fun K hK => ?_)
        go_simp
        refine (shaOne_true _).mono ?_
        rintro e w13 ⟨rfl, hb13⟩
        have M13 := Lib.hid (M12.out.keep hb13)
        refine hK.out _ _ (M13.out) ?_
        clear hK K
        refine planG_q (v := ?_) (by rfl) (M13.out) ?_ ?_
        rotate_left
        · intro W hW
          go_simp
          with_reducible rfl
        simp only [Act.put, List.setIfInBounds_toArray, List.set_cons_zero, List.set_cons_succ]
        refine planG_q (v := ?_) (by rfl) (M13.out) ?_ ?_
        rotate_left
        · intro W hW
          go_simp
          with_reducible rfl
        simp only [Act.put, List.setIfInBounds_toArray, List.set_cons_zero, List.set_cons_succ]
        refine planG_nil ?_
        go_wp2_with fail
        go_ret
        exact ⟨rfl, M13.out.m.bel⟩
end Go.Proofs.Ytpplmogcjjgphaa
