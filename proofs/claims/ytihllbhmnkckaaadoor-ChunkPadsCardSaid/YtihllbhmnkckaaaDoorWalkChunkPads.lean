/- The law ChunkPads, walked. -/
import Derived.Test.YtihllbhmnkckaaaDoorRefChunk
import Derived.Test.YtihllbhmnkckaaaDoorChunkOne
namespace Go.Proofs.YtihllbhmnkckaaaDoor
set_option linter.unusedVariables false
set_option linter.unusedSimpArgs false
open Go.RowKit
attribute [local go_sem ↓] Go.wp_at_zero Go.wp_at_succ

theorem UnpadP.got {w : World} {r : Option (List UInt8)} {e : Ending} {w' : World} (h : UnpadP w r e w') : ∃ A m c, e = .returned (.tuple #[.slice A m c, .int .i64 (if r.isSome then 0 else 11)]) ∧ RdB w' A (r.getD []) ∧ (r.getD []).length = m ∧ Below w.heap.size w w' := by
  cases r with
  | none =>
    obtain ⟨he, hb⟩ := h.no
    exact ⟨none, 0, 0, he, fun j hj => absurd hj (by simp), rfl, hb⟩
  | some t =>
    obtain ⟨⟨v, he, ho⟩, hb⟩ := h.yes
    obtain ⟨A, c, rfl, hr, hc, _, _⟩ := ho.read
    exact ⟨A, _, c, he, hr, rfl, hb⟩
set_option maxRecDepth 100000 in
set_option maxHeartbeats 8000000 in
theorem chunkPads_walk (w : World) (A0 : Option Addr) (c0 : Nat) (l0 : List UInt8) (hR0 : RdB w A0 l0) (hlc0 : l0.length ≤ c0) (hcm0 : c0 ≤ 9223372036854775807) (hlt0 : ∀ a, A0 = some a → a.block < w.heap.size) (n : Int) (hn : -9223372036854775808 ≤ n ∧ n ≤ 9223372036854775807) :
    Calls Tryd.prog 4 #[.slice A0 l0.length c0, .int .i64 n] w fun e w' => e = .returned (.bool true) ∧ Below w.heap.size w w' := by
  obtain ⟨i0, hi0, hz0, hz1, hz2⟩ := info_parts (show (Tryd.prog.info? 5).map (fun i => (i.zero, i.size, i.bytes)) = some (some (.int .u8 0), 1, 1) by kernel_rfl)
  have I0 := Lib.hid hi0
  have I1 := Lib.hid hz1
  obtain ⟨q0, hq0⟩ : ∃ q, q = l0.length := ⟨_, rfl⟩
  rw [← hq0]
  have Q0 := Lib.hid hq0.symm
  have R0 := Lib.hid hR0
  have L0 := Lib.hid hlt0
  have C0 := Lib.hid (show q0 ≤ c0 by rw [hq0]; exact hlc0)
  have s0 : (q0 : Int) ≤ 9223372036854775807 := by omega
  clear hi0 hz0 hz1 hz2 hR0 hlc0 hcm0 hlt0 hn hq0
  go_enter Tryd.func4, Tryd.ntmps4
  go_upto_if 15 with fail
  go_cut [0] (fun v wx => ∃ (l : List UInt8) (q : Nat), v = .slice A0 q c0 ∧ l.length = q ∧ q ≤ 3000 ∧ RdB w A0 l ∧ wx = w)
  case first =>
    by_cases h : 3000 < q0
    · have hD : decide ((3000 : Int) < (q0 : Int)) = true := by simp; omega
      have CB := Lib.hid (show 3000 ≤ c0 by have := C0.out; omega)
      go_wp2_with (refine wpList_val rfl (run_cut_to 22 (.tmp 16) (.const (.int .i64 3000)) rfl 5 Tryd.underlying22 I0.out I1.out A0 q0 c0 3000 rfl rfl CB.out _) ?_)
      go_meet
      exact ⟨l0.take 3000, 3000, rfl, by rw [List.length_take, Q0.out]; omega, by omega, R0.out.take 3000, rfl⟩
    · have hD : decide ((3000 : Int) < (q0 : Int)) = false := by simp; omega
      go_wp2_with fail
      go_meet
      exact ⟨l0, q0, rfl, Q0.out, by omega, R0.out, rfl⟩
  case rest =>
  obtain ⟨l, q, rfl, hl, hq, hr, hw⟩ := hcut
  rw [hw]
  have L := Lib.hid hl
  have Q := Lib.hid hq
  have R := Lib.hid hr
  have qb : (q : Int) ≤ 3000 := by omega
  obtain ⟨X, hX⟩ : ∃ X, X = padL l := ⟨_, rfl⟩
  obtain ⟨p, hp⟩ : ∃ p, p = padN q := ⟨_, rfl⟩
  have P := Lib.hid hp
  have XE := Lib.hid hX
  have XL := Lib.hid (show X.length = p by rw [hX, padL_length _ (by rw [hl]; omega), hl, hp])
  have pb : (p : Int) ≤ 3300 := by rw [hp]; unfold padN; rw [if_pos (by omega)]; omega
  obtain ⟨r, hr'⟩ : ∃ r, r = unpadS l := ⟨_, rfl⟩
  obtain ⟨o, ho'⟩ : ∃ o, o = r.getD [] := ⟨_, rfl⟩
  obtain ⟨k, hk⟩ : ∃ k : Int, k = (if r.isSome then 0 else 11) := ⟨_, rfl⟩
  have KB := Lib.hid (show k = 0 ∨ k = 11 by rw [hk]; split <;> simp)
  have RE := Lib.hid hr'
  have OE := Lib.hid ho'
  have KE := Lib.hid hk
  clear hl hq hr hw hX hp hr' ho' hk wc
  go_upto_region 3 with fail
  go_wp2_with fail
  refine (pad_any w A0 q c0 l L.out R.out L0.out (by have := Q.out; omega)).mono ?_
  rw [← XE.out]
  rintro e w1 ⟨v, rfl, ho, hb⟩
  obtain ⟨Ax, cx, rfl, hrx, hcx, _, hbx⟩ := ho.read
  rw [XL.out]
  have RX := Lib.hid hrx
  have S := Lib.hid hb
  have R1 := Lib.hid (R.out.keep hb)
  clear ho hb hrx hcx hbx
  go_wp2_with (refine wpList_val rfl (run_str 22 9 (.tmp 24) rfl Tryd.underlying22 Tryd.underlying5 Tryd.underlying9 R1.out q c0 L.out rfl) ?_)
  refine (rpad_any w1 l q L.out (by have := Q.out; omega)).mono ?_
  rw [← XE.out]
  rintro e w2 ⟨rfl, hb⟩
  have RX := Lib.hid (RX.out.keep hb)
  have R1 := Lib.hid (R1.out.keep hb)
  have S := Lib.hid (S.out.trans (hb.mono S.out.size))
  clear hb
  go_wp2_with fail
  refine (unpad_any w2 A0 q c0 l L.out R1.out (by have := Q.out; omega)).mono ?_
  rw [← RE.out]
  rintro e w3 hp
  obtain ⟨Au, mu, cu, rfl, hru, hmu, hb⟩ := hp.got
  rw [← OE.out] at hru hmu
  rw [← KE.out]
  have RU := Lib.hid hru
  have MU := Lib.hid hmu
  have RX := Lib.hid (RX.out.keep hb)
  have R1 := Lib.hid (R1.out.keep hb)
  have S := Lib.hid (S.out.trans (hb.mono S.out.size))
  clear hp hb hru hmu
  go_wp2_with (refine wpList_val rfl (run_str 22 9 (.tmp 35) rfl Tryd.underlying22 Tryd.underlying5 Tryd.underlying9 R1.out q c0 L.out rfl) ?_)
  refine (runpad_any w3 l q L.out (by have := Q.out; omega)).mono ?_
  rw [← RE.out]
  intro e w4 hp
  obtain ⟨rfl, hb⟩ : e = .returned (.tuple #[.string (strB (r.getD [])), .int .i64 (if r.isSome then 0 else 11)]) ∧ Below w3.heap.size w3 w4 := hp
  rw [← OE.out, ← KE.out]
  have RU := Lib.hid (RU.out.keep hb)
  have RX := Lib.hid (RX.out.keep hb)
  have S := Lib.hid (S.out.trans (hb.mono S.out.size))
  clear hb
  obtain ⟨g, hg⟩ : ∃ g, g = padI n := ⟨_, rfl⟩
  have GE := Lib.hid hg
  obtain ⟨g2, hg2⟩ : ∃ g2, g2 = (padI n + 2047) / 2048 := ⟨_, rfl⟩
  have G2 := Lib.hid hg2
  clear hg hg2
  go_wp2_with (first
    | (refine wpList_valg rfl (run_str 22 9 (.tmp 40) rfl Tryd.underlying22 Tryd.underlying5 Tryd.underlying9 RX.out p cx XL.out rfl) ?_)
    | (refine wpList_valg rfl (run_eqstr_true 9 9 (.tmp 41) (.tmp 42) rfl X X rfl rfl rfl _) ?_)
    | (refine wpList_valg rfl (run_str 22 9 (.tmp 50) rfl Tryd.underlying22 Tryd.underlying5 Tryd.underlying9 RU.out mu cu MU.out rfl) ?_)
    | (refine wpList_valg rfl (run_eqstr_true 9 9 (.tmp 51) (.tmp 52) rfl o o rfl rfl rfl _) ?_))
  refine (padded_any w4 n).mono ?_
  rw [← GE.out]
  rintro e wd ⟨rfl, hw⟩
  rw [hw]
  clear hw wd
  go_wp2_with fail
  refine (rpadded_any w4 n).mono ?_
  rw [← GE.out]
  rintro e wd ⟨rfl, hw⟩
  rw [hw]
  clear hw wd
  go_wp2_with fail
  refine (count_any w4 n).mono ?_
  rw [← G2.out]
  rintro e wd ⟨rfl, hw⟩
  rw [hw]
  clear hw wd
  go_wp2_with fail
  refine (rcount_any w4 n).mono ?_
  rw [← G2.out]
  rintro e wd ⟨rfl, hw⟩
  rw [hw]
  clear hw wd
  go_wp2_with fail
  refine (padded_any w4 (q : Int)).mono ?_
  rw [padI_nat, ← P.out]
  rintro e wd ⟨rfl, hw⟩
  rw [hw]
  clear hw wd
  go_wp2_with fail
  refine (chunkOne_true w4).mono ?_
  rintro e w5 ⟨rfl, hb⟩
  have BF := Lib.hid (S.out.trans (hb.mono S.out.size))
  clear hb
  go_wp2_with fail
  go_ret
  exact ⟨rfl, BF.out⟩
end Go.Proofs.YtihllbhmnkckaaaDoor
