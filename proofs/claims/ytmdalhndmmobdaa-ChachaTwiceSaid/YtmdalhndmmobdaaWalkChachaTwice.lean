/- The law ChachaTwice, walked. -/
import Derived.Test.YtmdalhndmmobdaaChOne
import Derived.Test.YtmdalhndmmobdaaPlan
import Derived.Test.YtmdalhndmmobdaaCuts
import Derived.Test.YtmdalhndmmobdaaStreamLaws
import Derived.Deep.DeepCutAuto
namespace Go.Proofs.Ytmdalhndmmobdaa
open Go.RowKit
attribute [local go_sem ↓] Go.wp_at_zero Go.wp_at_succ

def n3 : List UInt8 := [0, 3, 0, 0, 0, 0, 0, 0, 0, 0, 0, 0]
/-- What stays as it is while the law is asked. -/
structure TwW (w : World) (k : List UInt8) (A : Option Addr) (l : List UInt8) (A2 : Option Addr) (x : List UInt8) (W : World) : Prop where
  s : StrW w k n3 W
  r1 : RdB W A l
  r2 : RdB W A2 x
  b1 : ∀ a, A = some a → a.block < W.heap.size
  b2 : ∀ a, A2 = some a → a.block < W.heap.size
theorem TwW.below {w W W' : World} {k l x : List UInt8} {A A2 : Option Addr} (h : TwW w k A l A2 x W) (hb : Below W.heap.size W W') : TwW w k A l A2 x W' where
  s := h.s.below hb
  r1 := h.r1.below hb h.b1
  r2 := h.r2.below hb h.b2
  b1 := fun a e => Nat.lt_of_lt_of_le (h.b1 a e) hb.size
  b2 := fun a e => Nat.lt_of_lt_of_le (h.b2 a e) hb.size
theorem TwW.drew {w W : World} {k l x : List UInt8} {A A2 : Option Addr} (h : TwW w k A l A2 x W) : TwW w k A l A2 x W.drew := h.below ((Below.refl _ _).drew)

theorem count_q (count : UInt32) (q m : Nat) (hm : m = 64 * q) (h : m ≤ 2000) : IntKind.u32.wrap ((count.toNat : Int) + IntKind.u32.wrap (IntKind.i64.wrap ((m : Int) / 64))) = ((count + UInt32.ofNat q).toNat : Int) := by
  have e : (m : Int) / 64 = (q : Int) := by omega
  have e2 : (IntKind.i64.wrap (q : Int)) = (q : Int) := by rw [IntKind.wrap_i64]; omega
  have e4 : (IntKind.u32.wrap (q : Int)) = (q : Int) := by rw [IntKind.wrap_u32]; omega
  rw [e, e2, e4, IntKind.wrap_u32, UInt32.toNat_add, UInt32.toNat_ofNat']
  simp only [Nat.reducePow]
  omega

set_option maxRecDepth 100000 in
set_option maxHeartbeats 2000000 in
theorem chachaTwice_walk (w : World) (k : List UInt8) (hk : k.length = 32) (count : UInt32) (A : Option Addr) (c : Nat) (bs : List UInt8) (hR : RdB w A bs) (hlc : bs.length ≤ c) (hcm : c ≤ 9223372036854775807) (hlt : ∀ a, A = some a → a.block < w.heap.size) :
    Calls Try.prog 5 #[.agg (W8 k), .int .u32 (count.toNat : Int), .slice A bs.length c] w fun e w' => e = .returned (.bool true) ∧ Below w.heap.size w w' := by
  have HK := Lib.hid hk
  have HR := Lib.hid hR
  have HLT := Lib.hid hlt
  have HN := Lib.hid (show n3.length = 12 from rfl)
  obtain ⟨i0, hi, hz0, hz1, hz2⟩ := info_parts (show (Try.prog.info? 5).map (fun i => (i.zero, i.size, i.bytes)) = some (some (.int .u8 0), 1, 1) by kernel_rfl)
  have I0 := Lib.hid hi
  have I2 := Lib.hid hz1
  clear hi hz0 hz1 hz2
  have ZK := Lib.hid (show (Try.prog.info? 23).map (·.size) = some (W8 k).size by rw [W8_size, HK.out]; kernel_rfl)
  have ZN := Lib.hid (show (Try.prog.info? 25).map (·.size) = some (W8 n3).size by kernel_rfl)
  clear hk hR hlt
  go_enter Try.func5, Try.ntmps5
  go_upto_region 1 with fail
  refine wp_abs (fun W => W.heap[w.heap.size]? = some (.cells (W8 k) 23 (0, 0)) ∧ Below w.heap.size w W ∧ W.heap.size = w.heap.size + 1) ⟨ha_new _ _ _ rfl, (Below.refl _ _).alloc (Nat.le_refl _) _, ha_size _ _⟩ ?_
  rintro w1 ⟨hk1, hl1, hs1⟩
  have K1 := Lib.hid hk1
  have L1 := Lib.hid hl1
  have S1 := Lib.hid hs1
  clear hk1 hl1 hs1
  go_upto_if 13 with fail
  go_cut [2] (fun b wx => ∃ l : List UInt8, b = .slice A l.length c ∧ RdB w A l ∧ l.length ≤ 2000 ∧ l.length ≤ c ∧ wx.heap[w.heap.size]? = some (.cells (W8 k) 23 (0, 0)) ∧ Below w.heap.size w wx ∧ wx.heap.size = w.heap.size + 1)
  case first =>
    by_cases h2 : 2000 < bs.length
    · have hD : decide ((2000 : Int) < (bs.length : Int)) = true := by simp; omega
      have hcut := cut_to (P := Try.prog) 30 5 Try.underlying30 I0.out I2.out A bs.length c 2000 (by omega)
      go_wp2_with fail
      go_meet
      exact ⟨bs.take 2000, by rw [show (bs.take 2000).length = 2000 by rw [List.length_take]; omega], HR.out.take _, by rw [List.length_take]; omega, by rw [List.length_take]; omega, K1.out, L1.out, S1.out⟩
    · have hD : decide ((2000 : Int) < (bs.length : Int)) = false := by simp; omega
      go_wp2_with fail
      go_meet
      exact ⟨bs, rfl, HR.out, by omega, hlc, K1.out, L1.out, S1.out⟩
  case rest =>
    clear K1 L1 S1 hlc HR
    obtain ⟨l, rfl, hr, hl2, hlc, hk1, hb1, hs1⟩ := hcut
    have HR := Lib.hid hr
    have L2 := Lib.hid hl2
    have LC := Lib.hid hlc
    have K1 := Lib.hid hk1
    have B1 := Lib.hid hb1
    have S1 := Lib.hid hs1
    clear hr hl2 hlc hk1 hb1 hs1 w1
    go_upto_region 4 with (refine wpList_store_new rfl rfl 25 (.tmp 7) (.tmp 16) rfl (W8 n3) rfl rfl ZN.out ?c1 (W8_one _) ?_)
    case c1 => rfl
    obtain ⟨hk1, hb1, hs1⟩ := And.intro K1.out (And.intro B1.out S1.out)
    rw [hs1]
    refine wp_abs (fun W => StrW w k n3 W ∧ RdB W A l) ⟨⟨ha_old _ _ _ (by omega) hk1, ha_new _ _ _ (by omega), hb1.alloc (by omega) _⟩, (HR.out.below hb1 HLT.out).below ((Below.refl wc.heap.size _).alloc (Nat.le_refl _) _) (fun a e => by have := HLT.out a e; omega)⟩ ?_
    rintro w2 ⟨s2, r2⟩
    have S2 := Lib.hid s2
    have R2 := Lib.hid r2
    have B2 := Lib.hid (show ∀ a, A = some a → a.block < w2.heap.size from fun a e => by have := HLT.out a e; have := s2.size; omega)
    clear hk1 hb1 hs1 s2 r2 K1 B1 S1 HR HLT wc
    go_wp2_with (first
        | (refine wpList_load_row rfl 23 (.tmp 3) rfl w.heap.size rfl 23 (W8 k) (0, 0) _ S2.out.bk Try.underlying23 rfl ZK.out ?_)
        | (refine wpList_load_row rfl 25 (.tmp 7) rfl (w.heap.size + 1) rfl 25 (W8 n3) (0, 0) _ S2.out.bn Try.underlying25 rfl ZN.out ?_))
    refine (stream_any k n3 HK.out HN.out count _ A c l R2.out LC.out (by have := L2.out; omega) B2.out).mono ?_
    rintro e w3 ⟨v, rfl, ho, hb⟩
    obtain ⟨A2, c2, rfl, hr2, hl2, hm2, hb2⟩ := ho.read
    obtain ⟨x, hx⟩ : ∃ x, x = streamL k n3 count l := ⟨_, rfl⟩
    have hxl : x.length = l.length := by rw [hx, streamL_length]
    rw [← hx] at hr2 ho hl2
    rw [streamL_length]
    have X := Lib.hid hx
    have XL := Lib.hid hxl
    obtain ⟨N, hN⟩ : ∃ N, N = l.length := ⟨_, rfl⟩
    rw [← hN] at hxl
    rw [hxl] at hl2
    have NL := Lib.hid hN
    have LC2 := Lib.hid (show N ≤ c2 by omega)
    have T3 := Lib.hid (show TwW w k A l A2 x w3 from ⟨S2.out.below hb, R2.out.below hb B2.out, hr2, fun a e => Nat.lt_of_lt_of_le (B2.out a e) hb.size, fun a e => (hb2 a e).2⟩)
    have N2 := Lib.hid (show N ≤ 2000 by rw [hN]; exact L2.out)
    have NC := Lib.hid (show N ≤ c by rw [hN]; exact LC.out)
    rw [← hN]
    clear ho hb hr2 hl2 hm2 hb2 hx hxl hN S2 R2 B2 w2 L2 LC
    go_upto_region 5 with fail
    refine wp_region_plan (TwW w k A l A2 x) [0, 1, 2, 3, 4, 5, 6, 7, 8, 9, 12, 13] [10, 11, 14, 15] (by kernel_rfl) (by kernel_rfl) (fun _ _ d _ _ h => by cases d <;> exact h) (T3.out.drew) ?_
    simp only [List.filterMap_cons, List.filterMap_nil, List.getElem?_toArray, List.getElem?_cons_zero, List.getElem?_cons_succ]
    refine planQ_cons (v := ?_) (by rfl) ?_ ?_
    rotate_left
    · intro W hW
      go_simp
      with_reducible rfl
    simp only [Act.put, List.setIfInBounds_toArray, List.set_cons_zero, List.set_cons_succ]
    refine planQ_cons (v := ?_) (by rfl) ?_ ?_
    rotate_left
    · intro W hW
      go_simp
      with_reducible rfl
    simp only [Act.put, List.setIfInBounds_toArray, List.set_cons_zero, List.set_cons_succ]
    refine planQ_cons (v := ?_) (by rfl) ?_ ?_
    rotate_left
    · intro W hW
      go_simp
      with_reducible rfl
    simp only [Act.put, List.setIfInBounds_toArray, List.set_cons_zero, List.set_cons_succ]
    refine planQ_cons (v := ?_) (by rfl) ?_ ?_
    rotate_left
    · intro W hW
      go_simp
      with_reducible rfl
    simp only [Act.put, List.setIfInBounds_toArray, List.set_cons_zero, List.set_cons_succ]
    refine planQ_cons (v := ?_) (by rfl) ?_ ?_
    rotate_left
    · intro W hW
      go_simp
      with_reducible rfl
    simp only [Act.put, List.setIfInBounds_toArray, List.set_cons_zero, List.set_cons_succ]
    refine planQ_cons (v := ?_) (by rfl) ?_ ?_
    rotate_left
    · intro W hW
      go_simp
      with_reducible rfl
    simp only [Act.put, List.setIfInBounds_toArray, List.set_cons_zero, List.set_cons_succ]
    refine planQ_cons (by rfl) (fun W hW => run_load_row 23 (.tmp 3) rfl w.heap.size rfl 23 (W8 k) (0, 0) _ hW.s.bk Try.underlying23 rfl ZK.out) ?_
    simp only [Act.put, List.setIfInBounds_toArray, List.set_cons_zero, List.set_cons_succ]
    refine planQ_cons (by rfl) (fun W hW => run_load_row 25 (.tmp 7) rfl (w.heap.size + 1) rfl 25 (W8 n3) (0, 0) _ hW.s.bn Try.underlying25 rfl ZN.out) ?_
    simp only [Act.put, List.setIfInBounds_toArray, List.set_cons_zero, List.set_cons_succ]
    refine planQ_cons (v := ?_) (by rfl) ?_ ?_
    rotate_left
    · intro W hW
      go_simp
      with_reducible rfl
    simp only [Act.put, List.setIfInBounds_toArray, List.set_cons_zero, List.set_cons_succ]
    refine planQ_cons (v := ?_) (by rfl) ?_ ?_
    rotate_left
    · intro W hW
      go_simp
      with_reducible rfl
    simp only [Act.put, List.setIfInBounds_toArray, List.set_cons_zero, List.set_cons_succ]
    refine planQ_cons (v := ?_) (by rfl) ?_ ?_
    rotate_left
    · intro W hW
      go_simp
      with_reducible rfl
    simp only [Act.put, List.setIfInBounds_toArray, List.set_cons_zero, List.set_cons_succ]
    refine planQ_cons (by rfl) (fun W hW => run_str 30 9 (.tmp 34) rfl Try.underlying30 Try.underlying5 Try.underlying9 hW.r1 N c NL.out.symm rfl) ?_
    simp only [Act.put, List.setIfInBounds_toArray, List.set_cons_zero, List.set_cons_succ]
    refine planQ_nil ?_
    refine planT_cons (by rfl) (fun K hK => ?_)
    go_simp
    refine (stream_read k n3 HK.out HN.out count _ A2 N c2 x (by rw [NL.out]; exact XL.out) T3.out.drew.r2 LC2.out (by have := N2.out; omega) T3.out.drew.b2).mono ?_
    rintro e w4 ⟨A4, c4, rfl, hr4, hl4, hb4, hbel⟩
    rw [X.out, streamL_twice] at hr4
    have R4 := Lib.hid hr4
    have T4 := Lib.hid (T3.out.drew.below hbel)
    clear hr4 hl4 hb4 hbel
    refine hK.out _ _ (T4.out) ?_
    clear hK K
    refine planT_val (by rfl) (T4.out) (run_str 30 9 (.tmp 32) rfl Try.underlying30 Try.underlying5 Try.underlying9 R4.out N c4 NL.out.symm rfl) ?_
    simp only [Act.put, List.setIfInBounds_toArray, List.set_cons_zero, List.set_cons_succ]
    refine planT_val (v := ?_) (by rfl) (T4.out) ?_ ?_
    rotate_left
    · go_simp
      with_reducible rfl
    simp only [Act.put, List.setIfInBounds_toArray, List.set_cons_zero, List.set_cons_succ]
    refine planT_val (v := ?_) (by rfl) (T4.out) ?_ ?_
    rotate_left
    · go_simp
      with_reducible rfl
    simp only [Act.put, List.setIfInBounds_toArray, List.set_cons_zero, List.set_cons_succ]
    refine planT_nil ?_
    clear R4 T3 w3
    obtain ⟨h, hh⟩ : ∃ h, h = N / 2 := ⟨_, rfl⟩
    have HH := Lib.hid hh
    have e1 : wrap64 ((N : Int) / 2) = (h : Int) := by have := N2.out; subst hh; unfold wrap64; omega
    clear hh
    go_upto_region 8 with fail
    rw [e1]
    clear e1
    have HN2 := Lib.hid (show h ≤ N by have := HH.out; omega)
    refine wp_region_plan (TwW w k A l A2 x) [0, 1, 2, 3, 4, 5, 8, 9, 10, 11] [6, 7, 12] (by kernel_rfl) (by kernel_rfl) (fun _ _ d _ _ h => by cases d <;> exact h) (T4.out.drew) ?_
    simp only [List.filterMap_cons, List.filterMap_nil, List.getElem?_toArray, List.getElem?_cons_zero, List.getElem?_cons_succ]
    refine planQ_cons (by rfl) (fun W hW => run_load_row 23 (.tmp 3) rfl w.heap.size rfl 23 (W8 k) (0, 0) _ hW.s.bk Try.underlying23 rfl ZK.out) ?_
    simp only [Act.put, List.setIfInBounds_toArray, List.set_cons_zero, List.set_cons_succ]
    refine planQ_cons (by rfl) (fun W hW => run_load_row 25 (.tmp 7) rfl (w.heap.size + 1) rfl 25 (W8 n3) (0, 0) _ hW.s.bn Try.underlying25 rfl ZN.out) ?_
    simp only [Act.put, List.setIfInBounds_toArray, List.set_cons_zero, List.set_cons_succ]
    refine planQ_cons (v := ?_) (by rfl) ?_ ?_
    rotate_left
    · intro W hW
      go_simp
      with_reducible rfl
    simp only [Act.put, List.setIfInBounds_toArray, List.set_cons_zero, List.set_cons_succ]
    refine planQ_cons (v := ?_) (by rfl) ?_ ?_
    rotate_left
    · intro W hW
      go_simp
      with_reducible rfl
    simp only [Act.put, List.setIfInBounds_toArray, List.set_cons_zero, List.set_cons_succ]
    refine planQ_cons (v := ?_) (by rfl) ?_ ?_
    rotate_left
    · intro W hW
      go_simp
      with_reducible rfl
    simp only [Act.put, List.setIfInBounds_toArray, List.set_cons_zero, List.set_cons_succ]
    refine planQ_cons (by rfl) (fun W hW => run_cut_to 30 (.tmp 44) (.tmp 45) rfl 5 Try.underlying30 I0.out I2.out A N c h rfl rfl (by have := HN2.out; have := NC.out; omega) W) ?_
    simp only [Act.put, List.setIfInBounds_toArray, List.set_cons_zero, List.set_cons_succ]
    refine planQ_cons (v := ?_) (by rfl) ?_ ?_
    rotate_left
    · intro W hW
      go_simp
      with_reducible rfl
    simp only [Act.put, List.setIfInBounds_toArray, List.set_cons_zero, List.set_cons_succ]
    refine planQ_cons (v := ?_) (by rfl) ?_ ?_
    rotate_left
    · intro W hW
      go_simp
      with_reducible rfl
    simp only [Act.put, List.setIfInBounds_toArray, List.set_cons_zero, List.set_cons_succ]
    refine planQ_cons (by rfl) (fun W hW => run_cut_to 30 (.tmp 49) (.tmp 50) rfl 5 Try.underlying30 I0.out I2.out A2 N c2 h rfl rfl (by have := HN2.out; have := LC2.out; omega) W) ?_
    simp only [Act.put, List.setIfInBounds_toArray, List.set_cons_zero, List.set_cons_succ]
    refine planQ_cons (by rfl) (fun W hW => run_str 30 9 (.tmp 51) rfl Try.underlying30 Try.underlying5 Try.underlying9 (hW.r2.take h) h c2 (by have := HN2.out; have := NL.out; have := XL.out; rw [List.length_take]; omega) rfl) ?_
    simp only [Act.put, List.setIfInBounds_toArray, List.set_cons_zero, List.set_cons_succ]
    refine planQ_nil ?_
    refine planT_cons (by rfl) (fun K hK => ?_)
    go_simp
    refine (stream_read k n3 HK.out HN.out count _ A h c (l.take h) (by have := HN2.out; have := NL.out; rw [List.length_take]; omega) (T4.out.drew.r1.take h) (by have := HN2.out; have := NC.out; omega) (by have := N2.out; have := HN2.out; omega) T4.out.drew.b1).mono ?_
    rintro e w5 ⟨A5, c5, rfl, hr5, hl5, hb5, hbel⟩
    rw [streamL_take, ← X.out] at hr5
    have R5 := Lib.hid hr5
    have T5 := Lib.hid (T4.out.drew.below hbel)
    clear hr5 hl5 hb5 hbel
    refine hK.out _ _ (T5.out) ?_
    clear hK K
    refine planT_val (by rfl) (T5.out) (run_str 30 9 (.tmp 47) rfl Try.underlying30 Try.underlying5 Try.underlying9 R5.out h c5 (by have := HN2.out; have := NL.out; have := XL.out; rw [List.length_take]; omega) rfl) ?_
    simp only [Act.put, List.setIfInBounds_toArray, List.set_cons_zero, List.set_cons_succ]
    refine planT_val (v := ?_) (by rfl) (T5.out) ?_ ?_
    rotate_left
    · go_simp
      with_reducible rfl
    simp only [Act.put, List.setIfInBounds_toArray, List.set_cons_zero, List.set_cons_succ]
    refine planT_nil ?_
    clear R5 T4 w4
    obtain ⟨q, hq⟩ : ∃ q, q = h / 64 := ⟨_, rfl⟩
    obtain ⟨m, hm⟩ : ∃ m, m = 64 * q := ⟨_, rfl⟩
    have HM := Lib.hid hm
    have M2 := Lib.hid (show m ≤ N by have := HN2.out; omega)
    have e1 : wrap64 ((h : Int) / 64) = (q : Int) := by have := N2.out; have := HN2.out; subst hq; unfold wrap64; omega
    have e2 : wrap64 ((q : Int) * 64) = (m : Int) := by have := N2.out; have := HN2.out; have := M2.out; subst hm; unfold wrap64; omega
    clear hq hm
    go_upto_region 11 with fail
    rw [e1, e2]
    clear e1 e2
    obtain ⟨A6, hX6, hR6, hB6⟩ := cut_from (P := Try.prog) 30 5 Try.underlying30 I0.out I2.out A N c m M2.out
    obtain ⟨A7, hX7, hR7, hB7⟩ := cut_from (P := Try.prog) 30 5 Try.underlying30 I0.out I2.out A2 N c2 m M2.out
    have X6 := Lib.hid hX6
    have X7 := Lib.hid hX7
    have R6 := Lib.hid (hR6 _ l NL.out.symm NC.out T5.out.drew.r1)
    have Q7 := Lib.hid hR7
    have B6 := Lib.hid (show ∀ a, A6 = some a → a.block < w5.drew.heap.size from fun a e => by obtain ⟨a0, e0, hb⟩ := hB6 a e; rw [hb]; exact T5.out.drew.b1 a0 e0)
    clear hX6 hX7 hR6 hR7 hB6 hB7
    refine wp_region_plan (TwW w k A l A2 x) [0, 1, 2, 3, 4, 5, 6, 7, 8, 9, 12, 13, 14, 15] [10, 11, 16, 17, 18, 19, 20] (by kernel_rfl) (by kernel_rfl) (fun _ _ d _ _ h => by cases d <;> exact h) (T5.out.drew) ?_
    simp only [List.filterMap_cons, List.filterMap_nil, List.getElem?_toArray, List.getElem?_cons_zero, List.getElem?_cons_succ]
    refine planQ_cons (by rfl) (fun W hW => run_load_row 23 (.tmp 3) rfl w.heap.size rfl 23 (W8 k) (0, 0) _ hW.s.bk Try.underlying23 rfl ZK.out) ?_
    simp only [Act.put, List.setIfInBounds_toArray, List.set_cons_zero, List.set_cons_succ]
    refine planQ_cons (by rfl) (fun W hW => run_load_row 25 (.tmp 7) rfl (w.heap.size + 1) rfl 25 (W8 n3) (0, 0) _ hW.s.bn Try.underlying25 rfl ZN.out) ?_
    simp only [Act.put, List.setIfInBounds_toArray, List.set_cons_zero, List.set_cons_succ]
    refine planQ_cons (v := ?_) (by rfl) ?_ ?_
    rotate_left
    · intro W hW
      go_simp
      with_reducible rfl
    simp only [Act.put, List.setIfInBounds_toArray, List.set_cons_zero, List.set_cons_succ]
    refine planQ_cons (v := ?_) (by rfl) ?_ ?_
    rotate_left
    · intro W hW
      go_simp
      with_reducible rfl
    simp only [Act.put, List.setIfInBounds_toArray, List.set_cons_zero, List.set_cons_succ]
    refine planQ_cons (v := ?_) (by rfl) ?_ ?_
    rotate_left
    · intro W hW
      go_simp
      with_reducible rfl
    simp only [Act.put, List.setIfInBounds_toArray, List.set_cons_zero, List.set_cons_succ]
    refine planQ_cons (v := ?_) (by rfl) ?_ ?_
    rotate_left
    · intro W hW
      go_simp
      with_reducible rfl
    simp only [Act.put, List.setIfInBounds_toArray, List.set_cons_zero, List.set_cons_succ]
    refine planQ_cons (v := ?_) (by rfl) ?_ ?_
    rotate_left
    · intro W hW
      go_simp
      with_reducible rfl
    simp only [Act.put, List.setIfInBounds_toArray, List.set_cons_zero, List.set_cons_succ]
    refine planQ_cons (v := ?_) (by rfl) ?_ ?_
    rotate_left
    · intro W hW
      go_simp
      with_reducible rfl
    simp only [Act.put, List.setIfInBounds_toArray, List.set_cons_zero, List.set_cons_succ]
    refine planQ_cons (v := ?_) (by rfl) ?_ ?_
    rotate_left
    · intro W hW
      go_simp
      with_reducible rfl
    simp only [Act.put, List.setIfInBounds_toArray, List.set_cons_zero, List.set_cons_succ]
    refine planQ_cons (by rfl) (fun W hW => run_cut_from 30 (.tmp 64) (.tmp 65) rfl Try.underlying30 X6.out rfl rfl W) ?_
    simp only [Act.put, List.setIfInBounds_toArray, List.set_cons_zero, List.set_cons_succ]
    refine planQ_cons (v := ?_) (by rfl) ?_ ?_
    rotate_left
    · intro W hW
      go_simp
      with_reducible rfl
    simp only [Act.put, List.setIfInBounds_toArray, List.set_cons_zero, List.set_cons_succ]
    refine planQ_cons (v := ?_) (by rfl) ?_ ?_
    rotate_left
    · intro W hW
      go_simp
      with_reducible rfl
    simp only [Act.put, List.setIfInBounds_toArray, List.set_cons_zero, List.set_cons_succ]
    refine planQ_cons (by rfl) (fun W hW => run_cut_from 30 (.tmp 69) (.tmp 70) rfl Try.underlying30 X7.out rfl rfl W) ?_
    simp only [Act.put, List.setIfInBounds_toArray, List.set_cons_zero, List.set_cons_succ]
    refine planQ_cons (by rfl) (fun W hW => run_str 30 9 (.tmp 71) rfl Try.underlying30 Try.underlying5 Try.underlying9 (Q7.out W x (by rw [XL.out]; exact NL.out.symm) LC2.out hW.r2) (N - m) (c2 - m) (by have := NL.out; have := XL.out; rw [List.length_drop]; omega) rfl) ?_
    simp only [Act.put, List.setIfInBounds_toArray, List.set_cons_zero, List.set_cons_succ]
    refine planQ_nil ?_
    refine planT_cons (by rfl) (fun K hK => ?_)
    go_simp
    have e3 := count_q count q m HM.out (by have := N2.out; have := M2.out; omega)
    rw [e3]
    clear e3
    refine (stream_read k n3 HK.out HN.out _ _ A6 (N - m) (c - m) (l.drop m) (by have := NL.out; rw [List.length_drop]; omega) R6.out (by have := NC.out; have := M2.out; omega) (by have := N2.out; omega) B6.out).mono ?_
    rintro e w7 ⟨A8, c8, rfl, hr8, hl8, hb8, hbel⟩
    rw [HM.out, streamL_drop, ← HM.out, ← X.out] at hr8
    have R8 := Lib.hid hr8
    have T7 := Lib.hid (T5.out.drew.below hbel)
    clear hr8 hl8 hb8 hbel
    refine hK.out _ _ (T7.out) ?_
    clear hK K
    refine planT_val (by rfl) (T7.out) (run_str 30 9 (.tmp 67) rfl Try.underlying30 Try.underlying5 Try.underlying9 R8.out (N - m) c8 (by have := NL.out; have := XL.out; rw [List.length_drop]; omega) rfl) ?_
    simp only [Act.put, List.setIfInBounds_toArray, List.set_cons_zero, List.set_cons_succ]
    refine planT_val (v := ?_) (by rfl) (T7.out) ?_ ?_
    rotate_left
    · go_simp
      with_reducible rfl
    simp only [Act.put, List.setIfInBounds_toArray, List.set_cons_zero, List.set_cons_succ]
    refine planT_val (v := ?_) (by rfl) (T7.out) ?_ ?_
    rotate_left
    · go_simp
      with_reducible rfl
    simp only [Act.put, List.setIfInBounds_toArray, List.set_cons_zero, List.set_cons_succ]
    refine planT_cons (by rfl) (fun K hK => ?_)
    go_simp
    refine (one_true _).mono ?_
    rintro e w9 ⟨rfl, hb9⟩
    have T9 := Lib.hid (T7.out.below hb9)
    clear hb9
    refine hK.out _ _ (T9.out) ?_
    clear hK K
    refine planT_val (v := ?_) (by rfl) (T9.out) ?_ ?_
    rotate_left
    · go_simp
      with_reducible rfl
    simp only [Act.put, List.setIfInBounds_toArray, List.set_cons_zero, List.set_cons_succ]
    refine planT_val (v := ?_) (by rfl) (T9.out) ?_ ?_
    rotate_left
    · go_simp
      with_reducible rfl
    simp only [Act.put, List.setIfInBounds_toArray, List.set_cons_zero, List.set_cons_succ]
    refine planT_nil ?_
    clear T5 T7 R8 R6 B6 w7
    go_wp2_with fail
    go_ret
    exact ⟨rfl, T9.out.s.bel⟩
end Go.Proofs.Ytmdalhndmmobdaa
