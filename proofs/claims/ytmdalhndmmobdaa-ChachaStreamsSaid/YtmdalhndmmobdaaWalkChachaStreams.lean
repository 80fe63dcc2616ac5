/- The law ChachaStreams, walked. -/
import Derived.Test.YtmdalhndmmobdaaRefStr
import Derived.Test.YtmdalhndmmobdaaChOne
import Derived.Test.YtmdalhndmmobdaaGPlan
namespace Go.Proofs.Ytmdalhndmmobdaa
set_option linter.unusedVariables false
set_option linter.unusedSimpArgs false
open Go.RowKit
attribute [local go_sem ↓] Go.wp_at_zero Go.wp_at_succ

def n5 (x : UInt8) : List UInt8 := [0, 0, 0, 0, 0, x, 0, 0, 0, 0, 0, 0]
theorem low_byte (c : UInt32) : ∃ x : UInt8, IntKind.u8.wrap (c.toNat : Int) = (x.toNat : Int) ∧ (c.toNat : Int) % 256 = (x.toNat : Int) := by
  refine ⟨c.toUInt8, ?_, ?_⟩
  · rw [IntKind.wrap_u8, UInt32.toNat_toUInt8]; omega
  · rw [UInt32.toNat_toUInt8]; omega
/-- What stays as it is while the law is asked. -/
structure TsW (w : World) (k n : List UInt8) (A : Option Addr) (l : List UInt8) (W : World) : Prop where
  s : StrW w k n W
  r1 : RdB W A l
  b1 : ∀ a, A = some a → a.block < W.heap.size
theorem TsW.below {w W W' : World} {k n l : List UInt8} {A : Option Addr} (h : TsW w k n A l W) (hb : Below W.heap.size W W') : TsW w k n A l W' where
  s := h.s.below hb
  r1 := h.r1.below hb h.b1
  b1 := fun a e => Nat.lt_of_lt_of_le (h.b1 a e) hb.size

set_option maxRecDepth 100000 in
set_option maxHeartbeats 2000000 in
theorem chachaStreams_walk (w : World) (k : List UInt8) (hk : k.length = 32) (count : UInt32) (A : Option Addr) (c : Nat) (bs : List UInt8) (hR : RdB w A bs) (hlc : bs.length ≤ c) (hcm : c ≤ 9223372036854775807) (hlt : ∀ a, A = some a → a.block < w.heap.size) :
    Calls Try.prog 4 #[.agg (W8 k), .int .u32 (count.toNat : Int), .slice A bs.length c] w fun e w' => e = .returned (.bool true) ∧ Below w.heap.size w w' := by
  have HK := Lib.hid hk
  have HR := Lib.hid hR
  have HLT := Lib.hid hlt
  obtain ⟨i0, hi, hz0, hz1, hz2⟩ := info_parts (show (Try.prog.info? 5).map (fun i => (i.zero, i.size, i.bytes)) = some (some (.int .u8 0), 1, 1) by kernel_rfl)
  have I0 := Lib.hid hi
  have I2 := Lib.hid hz1
  clear hi hz0 hz1 hz2
  have ZK := Lib.hid (show (Try.prog.info? 23).map (·.size) = some (W8 k).size by rw [W8_size, HK.out]; kernel_rfl)
  have ZN := fun x => Lib.hid (show (Try.prog.info? 25).map (·.size) = some (W8 (n5 x)).size by kernel_rfl)
  have ZNH := Lib.hid ZN
  clear hk hR hlt ZN
  go_enter Try.func4, Try.ntmps4
  go_upto_region 1 with fail
  refine wp_abs (fun W => W.heap[w.heap.size]? = some (.cells (W8 k) 23 (0, 0)) ∧ Below w.heap.size w W ∧ W.heap.size = w.heap.size + 1) ⟨ha_new _ _ _ rfl, (Below.refl _ _).alloc (Nat.le_refl _) _, ha_size _ _⟩ ?_
  rintro w1 ⟨hk1, hl1, hs1⟩
  have K1 := Lib.hid hk1
  have L1 := Lib.hid hl1
  have S1 := Lib.hid hs1
  clear hk1 hl1 hs1
  go_upto_if 10 with fail
  go_cut [2] (fun b wx => ∃ l : List UInt8, b = .slice A l.length c ∧ RdB w A l ∧ l.length ≤ 600 ∧ l.length ≤ c ∧ wx.heap[w.heap.size]? = some (.cells (W8 k) 23 (0, 0)) ∧ Below w.heap.size w wx ∧ wx.heap.size = w.heap.size + 1)
  case first =>
    by_cases h2 : 600 < bs.length
    · have hD : decide ((600 : Int) < (bs.length : Int)) = true := by simp; omega
      have hcut := cut_to (P := Try.prog) 30 5 Try.underlying30 I0.out I2.out A bs.length c 600 (by omega)
      go_wp2_with fail
      go_meet
      exact ⟨bs.take 600, by rw [show (bs.take 600).length = 600 by rw [List.length_take]; omega], HR.out.take _, by rw [List.length_take]; omega, by rw [List.length_take]; omega, K1.out, L1.out, S1.out⟩
    · have hD : decide ((600 : Int) < (bs.length : Int)) = false := by simp; omega
      go_wp2_with fail
      go_meet
      exact ⟨bs, rfl, HR.out, by omega, hlc, K1.out, L1.out, S1.out⟩
  case rest =>
    clear K1 L1 S1 hlc HR
    obtain ⟨l, rfl, hr, hl2, hlc, hk1, hb1, hs1⟩ := hcut
    obtain ⟨N, hN⟩ : ∃ N, N = l.length := ⟨_, rfl⟩
    rw [← hN] at hl2 hlc ⊢
    have NL := Lib.hid hN
    have HR := Lib.hid hr
    have L2 := Lib.hid hl2
    have LC := Lib.hid hlc
    have K1 := Lib.hid hk1
    have B1 := Lib.hid hb1
    have S1 := Lib.hid hs1
    clear hr hl2 hlc hk1 hb1 hs1 hN w1
    obtain ⟨x, hx1, hx2⟩ := low_byte count
    go_upto_region 4 with (refine wpList_store_new rfl rfl 25 (.tmp 7) (.tmp 15) rfl (W8 (n5 x)) rfl rfl (ZNH.out x).out ?c1 (W8_one _) ?_)
    case c1 => rfl
    clear hx1 hx2
    obtain ⟨hk1, hb1, hs1⟩ := And.intro K1.out (And.intro B1.out S1.out)
    rw [hs1]
    obtain ⟨n, hn⟩ : ∃ n, n = n5 x := ⟨_, rfl⟩
    rw [← hn]
    have HN := Lib.hid (show n.length = 12 by rw [hn]; rfl)
    have ZN := Lib.hid (show (Try.prog.info? 25).map (·.size) = some (W8 n).size by rw [W8_size, HN.out]; kernel_rfl)
    refine wp_abs (fun W => TsW w k n A l W) ⟨⟨ha_old _ _ _ (by omega) hk1, ha_new _ _ _ (by omega), hb1.alloc (by omega) _⟩, (HR.out.below hb1 HLT.out).below ((Below.refl wc.heap.size _).alloc (Nat.le_refl _) _) (fun a e => by have := HLT.out a e; omega), fun a e => by have := HLT.out a e; rw [ha_size]; omega⟩ ?_
    intro w2 h2
    have T2 := Lib.hid (h2.below (Below.refl _ _).drew)
    clear hk1 hb1 hs1 h2 K1 B1 S1 HR HLT hn ZNH wc
    refine wp_region_road (TsW w k n A l) [(true, 0), (true, 1), (true, 2), (true, 3), (true, 6), (true, 7), (true, 8), (true, 9), (true, 10), (true, 11), (true, 12), (false, 4), (true, 5), (false, 13), (false, 14), (false, 15), (false, 16), (false, 17), (false, 18)] (by kernel_rfl) (by kernel_rfl) (fun _ _ d _ _ h => by cases d <;> exact h) ?_
    simp only [List.filterMap_cons, List.filterMap_nil, List.getElem?_toArray, List.getElem?_cons_zero, List.getElem?_cons_succ, Option.map_some]
    refine planG_q (by rfl) (T2.out) (fun W hW => run_load_row 23 (.tmp 3) rfl w.heap.size rfl 23 (W8 k) (0, 0) _ hW.s.bk Try.underlying23 rfl ZK.out) ?_
    simp only [Act.put, List.setIfInBounds_toArray, List.set_cons_zero, List.set_cons_succ]
    refine planG_q (by rfl) (T2.out) (fun W hW => run_load_row 25 (.tmp 7) rfl (w.heap.size + 1) rfl 25 (W8 n) (0, 0) _ hW.s.bn Try.underlying25 rfl ZN.out) ?_
    simp only [Act.put, List.setIfInBounds_toArray, List.set_cons_zero, List.set_cons_succ]
    refine planG_q (v := ?_) (by rfl) (T2.out) ?_ ?_
    rotate_left
    · intro W hW
      go_simp
      with_reducible rfl
    simp only [Act.put, List.setIfInBounds_toArray, List.set_cons_zero, List.set_cons_succ]
    refine planG_q (v := ?_) (by rfl) (T2.out) ?_ ?_
    rotate_left
    · intro W hW
      go_simp
      with_reducible rfl
    simp only [Act.put, List.setIfInBounds_toArray, List.set_cons_zero, List.set_cons_succ]
    refine planG_q (by rfl) (T2.out) (fun W hW => run_arr_all 23 (.tmp 3) rfl 32 5 Try.underlying23 I0.out w.heap.size rfl W) ?_
    simp only [Act.put, List.setIfInBounds_toArray, List.set_cons_zero, List.set_cons_succ]
    refine planG_q (by rfl) (T2.out) (fun W hW => run_str 30 9 (.tmp 22) rfl Try.underlying30 Try.underlying5 Try.underlying9 (RdB.row hW.s.bk) 32 32 HK.out rfl) ?_
    simp only [Act.put, List.setIfInBounds_toArray, List.set_cons_zero, List.set_cons_succ]
    refine planG_q (by rfl) (T2.out) (fun W hW => run_arr_all 25 (.tmp 7) rfl 12 5 Try.underlying25 I0.out (w.heap.size + 1) rfl W) ?_
    simp only [Act.put, List.setIfInBounds_toArray, List.set_cons_zero, List.set_cons_succ]
    refine planG_q (by rfl) (T2.out) (fun W hW => run_str 30 9 (.tmp 24) rfl Try.underlying30 Try.underlying5 Try.underlying9 (RdB.row hW.s.bn) 12 12 HN.out rfl) ?_
    simp only [Act.put, List.setIfInBounds_toArray, List.set_cons_zero, List.set_cons_succ]
    refine planG_q (v := ?_) (by rfl) (T2.out) ?_ ?_
    rotate_left
    · intro W hW
      go_simp
      with_reducible rfl
    simp only [Act.put, List.setIfInBounds_toArray, List.set_cons_zero, List.set_cons_succ]
    refine planG_q (v := ?_) (by rfl) (T2.out) ?_ ?_
    rotate_left
    · intro W hW
      go_simp
      with_reducible rfl
    simp only [Act.put, List.setIfInBounds_toArray, List.set_cons_zero, List.set_cons_succ]
    refine planG_q (by rfl) (T2.out) (fun W hW => run_str 30 9 (.tmp 27) rfl Try.underlying30 Try.underlying5 Try.underlying9 hW.r1 N c NL.out.symm rfl) ?_
    simp only [Act.put, List.setIfInBounds_toArray, List.set_cons_zero, List.set_cons_succ]
    refine planG_t (by rfl) (fun K hK => ?_)
    go_simp
    refine (stream_read k n HK.out HN.out count _ A N c l NL.out.symm T2.out.r1 LC.out (by have := L2.out; omega) T2.out.b1).mono ?_
    rintro e w4 ⟨A4, c4, rfl, hr4, hl4, hb4, hbel⟩
    obtain ⟨y, hy⟩ : ∃ y, y = streamL k n count l := ⟨_, rfl⟩
    rw [← hy] at hr4
    have Y := Lib.hid hy
    have YL := Lib.hid (show y.length = N by rw [hy, streamL_length]; exact NL.out.symm)
    have R4 := Lib.hid hr4
    have B4 := Lib.hid (fun a e => (hb4 a e).2)
    have T4 := Lib.hid (T2.out.below hbel)
    clear hr4 hl4 hb4 hbel hy
    refine hK.out _ _ (T4.out) ?_
    clear hK K
    refine planG_sw (fun W => TsW w k n A l W ∧ RdB W A4 y) (fun _ h => h.1) ?_
    refine planG_q (by rfl) (⟨T4.out, R4.out⟩) (fun W hW => run_str 30 9 (.tmp 20) rfl Try.underlying30 Try.underlying5 Try.underlying9 hW.2 N c4 YL.out rfl) ?_
    simp only [Act.put, List.setIfInBounds_toArray, List.set_cons_zero, List.set_cons_succ]
    refine planG_t (by rfl) (fun K hK => ?_)
    go_simp
    refine (refStream_any k n HK.out HN.out count l (by have := L2.out; have := NL.out; omega) _).mono ?_
    rintro e w5 ⟨rfl, hbel⟩
    rw [← Y.out]
    have T5 := Lib.hid (show TsW w k n A l w5 ∧ RdB w5 A4 y from ⟨T4.out.below hbel, R4.out.below hbel B4.out⟩)
    have B5 := Lib.hid (show ∀ a, A4 = some a → a.block < w5.heap.size from fun a e => Nat.lt_of_lt_of_le (B4.out a e) hbel.size)
    clear hbel R4
    refine hK.out _ _ (T5.out) ?_
    clear hK K
    refine planG_tv (v := ?_) (by rfl) (T5.out) ?_ ?_
    rotate_left
    · go_simp
      with_reducible rfl
    simp only [Act.put, List.setIfInBounds_toArray, List.set_cons_zero, List.set_cons_succ]
    refine planG_tv (v := ?_) (by rfl) (T5.out) ?_ ?_
    rotate_left
    · go_simp
      with_reducible rfl
    simp only [Act.put, List.setIfInBounds_toArray, List.set_cons_zero, List.set_cons_succ]
    refine planG_t (by rfl) (fun K hK => ?_)
    go_simp
    refine (one_true _).mono ?_
    rintro e w9 ⟨rfl, hb9⟩
    have T9 := Lib.hid (show TsW w k n A l w9 ∧ RdB w9 A4 y from ⟨T5.out.1.below hb9, T5.out.2.below hb9 B5.out⟩)
    clear hb9
    refine hK.out _ _ (T9.out) ?_
    clear hK K
    refine planG_tv (v := ?_) (by rfl) (T9.out) ?_ ?_
    rotate_left
    · go_simp
      with_reducible rfl
    simp only [Act.put, List.setIfInBounds_toArray, List.set_cons_zero, List.set_cons_succ]
    refine planG_tv (v := ?_) (by rfl) (T9.out) ?_ ?_
    rotate_left
    · go_simp
      with_reducible rfl
    simp only [Act.put, List.setIfInBounds_toArray, List.set_cons_zero, List.set_cons_succ]
    refine planG_nil ?_
    go_wp2_with fail
    go_ret
    exact ⟨rfl, T9.out.1.s.bel⟩
end Go.Proofs.Ytmdalhndmmobdaa
