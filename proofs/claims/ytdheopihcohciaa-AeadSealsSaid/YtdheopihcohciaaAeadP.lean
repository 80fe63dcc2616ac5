/- aead: padded, count. No condition but those each theorem states. -/
import Derived.Test.YtdheopihcohciaaHelp
namespace Go.Proofs.Ytdheopihcohciaa
set_option linter.unusedVariables false
set_option linter.unusedSimpArgs false
open Go.RowKit
attribute [local go_sem ↓] Go.wp_at_zero Go.wp_at_succ

/-- Zeros up to a block's end. -/
def padB (l : List UInt8) : List UInt8 := l ++ List.replicate ((16 - l.length % 16) % 16) 0
theorem padB_length (l : List UInt8) : (padB l).length = l.length + (16 - l.length % 16) % 16 := by simp [padB]
theorem padB_app (a b : List UInt8) : padB (padB a ++ b) = padB a ++ padB b := by
  have h : (padB a ++ b).length % 16 = b.length % 16 := by rw [List.length_append, padB_length]; omega
  conv => lhs; unfold padB
  rw [show (padB a ++ b) = a ++ List.replicate ((16 - a.length % 16) % 16) 0 ++ b from rfl] at h
  rw [h, List.append_assoc]
  rfl
/-- A length's eight bytes, the lowest first. -/
def leL (k n : Nat) : List UInt8 := (List.range k).map fun i => UInt8.ofNat (n / 2 ^ (8 * i))
theorem leL_length (k n : Nat) : (leL k n).length = k := by simp [leL]
theorem leL_succ (k n : Nat) : leL (k + 1) n = leL k n ++ [UInt8.ofNat (n / 2 ^ (8 * k))] := by simp [leL, List.range_succ]
set_option maxRecDepth 100000 in
set_option maxHeartbeats 1000000 in
theorem padded_any (w : World) (base : Nat) (v : Value) (b : List UInt8) (A : Option Addr) (n c : Nat) (t : List UInt8) (hn : t.length = n) (ho : OwnB w base v b) (hbase : base ≤ w.heap.size) (hR : RdB w A t) (hl : b.length + n ≤ 200000) :
    Calls Try.prog 16 #[v, .slice A n c] w fun e w' => ∃ v', e = .returned v' ∧ OwnB w' base v' (padB (b ++ t)) ∧ Below base w w' := by
  have TB := Lib.hid (show ByteT Try.prog from ⟨Try.underlying24, by kernel_rfl⟩)
  have HN := Lib.hid hn
  have O := Lib.hid ho
  have HB := Lib.hid hbase
  have HR := Lib.hid hR
  have HL := Lib.hid hl
  clear hn ho hbase hR hl
  go_enter Try.func16, Try.ntmps16
  go_wp2_with (refine app_list rfl TB.out (.tmp 5) (.tmp 6) rfl base v b t A n c rfl rfl HN.out O.out HR.out HB.out (by have := HL.out; omega) ?_)
  intro v1 w1 ho hg _
  have S := Lib.hid (grown_below hg HB.out (fun k e => (O.out.lt k e).1))
  obtain ⟨L, hL⟩ : ∃ L, L = b ++ t := ⟨_, rfl⟩
  rw [← hL] at ho
  have LE := Lib.hid hL
  have LN := Lib.hid (show L.length ≤ 200000 by rw [hL, List.length_append, HN.out]; exact HL.out)
  have O1 := Lib.hid ho
  have B1 := Lib.hid (Nat.le_trans HB.out hg.size)
  clear ho hg hL O HR
  obtain ⟨P, hP⟩ : ∃ P, P = L.length + (16 - L.length % 16) % 16 := ⟨_, rfl⟩
  have PE := Lib.hid hP
  clear hP
  go_wp2_with fail
  go_loopw [0] (fun u wr => ∃ j : Nat, L.length + j ≤ P ∧ OwnB wr base u (L ++ List.replicate j 0) ∧ Below base w wr ∧ base ≤ wr.heap.size) (fun u _ => P - lenOf u)
  case atStart => exact ⟨0, by have := PE.out; omega, by simpa using O1.out, S.out, B1.out⟩
  case round =>
    obtain ⟨j, hj, ho, hb, hs⟩ := hrel
    have J := Lib.hid hj
    have O := Lib.hid ho
    have S := Lib.hid hb
    have SZ := Lib.hid hs
    obtain ⟨A2, c2, hu, _⟩ := ho.read
    have hlen : (L ++ List.replicate j 0).length = L.length + j := by simp
    rw [hlen] at hu
    obtain ⟨m, hm⟩ : ∃ m, m = L.length + j := ⟨_, rfl⟩
    rw [← hm] at hu hj
    have ME := Lib.hid hm
    have LL := Lib.hid (show (L ++ List.replicate j 0).length = m by rw [hlen, hm])
    have mb : (m : Int) ≤ 300000 := by have := PE.out; have := LN.out; omega
    rw [hu] at O ⊢
    have PM := Lib.hid hj
    clear hj ho hb hs hlen hm hu
    by_cases h16 : m % 16 = 0
    · have e1 : (((m : Int) % 16) == 0) = true := by simp; omega
      have e2 : (((m : Int) % 16) != 0) = false := by simp; omega
      have hD : decide ((m : Int) % 16 = 0) = true := by simp; omega
      have JE := Lib.hid (show j = (16 - L.length % 16) % 16 by have := PE.out; have := ME.out; have := J.out; omega)
      clear h16
      go_wp2_with fail
      go_ret
      refine ⟨_, rfl, ?_, S.out⟩
      have := O.out
      rw [JE.out] at this
      rw [← LE.out]
      exact this
    · have e1 : (((m : Int) % 16) == 0) = false := by simp; omega
      have e2 : (((m : Int) % 16) != 0) = true := by simp; omega
      have hD : decide ((m : Int) % 16 = 0) = false := by simp; omega
      have MP := Lib.hid (show m < P by have := PE.out; have := ME.out; have := PM.out; omega)
      clear h16
      go_wp2_with (refine app_list rfl TB.out (.tmp 12) (.tmp 13) rfl base _ (L ++ List.replicate j 0) [0] (some ⟨wr.heap.size, 0, none⟩) 1 1 rfl rfl rfl (O.out.alloc _) (RdB.one (y := 0) (row_cell (fr := (0, 0)) (ha_new wr _ _ rfl) 0 rfl)) ?c1 ?c2 ?_)
      case c1 => have := SZ.out; rw [ha_size]; omega
      case c2 => have := LL.out; have := MP.out; have := PE.out; have := LN.out; omega
      intro v2 w2 ho hg _
      have B2 : Below base w (wr.alloc (.cells #[.int .u8 0] 5)) := S.out.alloc SZ.out _
      have S2 := Lib.hid (B2.trans (grown_below hg (by rw [ha_size]; have := SZ.out; omega) (fun k e => (O.out.lt k e).1)))
      have SZ2 := Lib.hid (show base ≤ w2.heap.size by have := hg.size; rw [ha_size] at this; have := SZ.out; omega)
      have O2 := Lib.hid (show OwnB w2 base v2 (L ++ List.replicate (j + 1) 0) by rw [List.replicate_succ']; exact ho)
      have VL := Lib.hid (show lenOf v2 = m + 1 by
        obtain ⟨A3, c3, e3, _⟩ := O2.out.read
        rw [e3]
        show (L ++ List.replicate (j + 1) 0).length = m + 1
        have := LL.out
        simp at this ⊢
        omega)
      clear ho hg B2
      go_wp2_with fail
      go_roundw
      case rel => exact ⟨j + 1, by have := MP.out; have := ME.out; omega, O2.out, S2.out, SZ2.out⟩
      case measure => rw [VL.out]; show P - (m + 1) < P - m; have := MP.out; omega
theorem le_byte_ex (n r : Nat) (hn : n ≤ 1000000) : ∃ z : UInt8, Hid (z = UInt8.ofNat (n / 2 ^ (8 * r))) ∧ IntKind.u8.wrap ((n : Int) / 2 ^ (8 * r)) = (z.toNat : Int) := by
  refine ⟨_, rfl, ?_⟩
  rw [IntKind.wrap_u8]
  have : ((n : Int) / 2 ^ (8 * r)) = ((n / 2 ^ (8 * r) : Nat) : Int) := by
    rw [Int.natCast_ediv, Int.natCast_pow]; rfl
  rw [this]
  simp
set_option maxRecDepth 100000 in
set_option maxHeartbeats 1000000 in
theorem count_any (w : World) (base : Nat) (v : Value) (b : List UInt8) (ho : OwnB w base v b) (hbase : base ≤ w.heap.size) (n : Nat) (hn : n ≤ 1000000) (hl : b.length ≤ 1000000) :
    Calls Try.prog 18 #[v, .int .i64 (n : Int)] w fun e w' => ∃ v', e = .returned v' ∧ OwnB w' base v' (b ++ leL 8 n) ∧ Below base w w' := by
  have TB := Lib.hid (show ByteT Try.prog from ⟨Try.underlying24, by kernel_rfl⟩)
  have O := Lib.hid ho
  have HB := Lib.hid hbase
  have HN := Lib.hid hn
  have HL := Lib.hid hl
  have nb : (n : Int) ≤ 1000000 := by omega
  have e0 : IntKind.u64.wrap (n : Int) = (n : Int) := by rw [IntKind.wrap_u64]; omega
  clear ho hbase hn hl
  go_enter Try.func18, Try.ntmps18
  go_wp2_with fail
  go_loopw [0, 6] (fun u i wr => ∃ r : Nat, r ≤ 8 ∧ i = .int .i64 (r : Int) ∧ OwnB wr base u (b ++ leL r n) ∧ Below base w wr ∧ base ≤ wr.heap.size) (fun _ i _ => 8 - (intOf i).toNat)
  case atStart => exact ⟨0, by omega, rfl, by simpa [leL] using O.out, Below.refl _ _, HB.out⟩
  case round =>
    obtain ⟨r, hr, rfl, ho, hb, hs⟩ := hrel
    have R := Lib.hid hr
    have O := Lib.hid ho
    have S := Lib.hid hb
    have SZ := Lib.hid hs
    clear hr ho hb hs
    by_cases hlt : r < 8
    · have hD : decide ((r : Int) < 8) = true := by simp; omega
      have R8 := Lib.hid hlt
      have e2 : 8 * (r : Int) ≤ 64 := by omega
      have e4 : (8 * (r : Int)).toNat = 8 * r := by omega
      obtain ⟨z, hz, e3⟩ := le_byte_ex n r HN.out
      have LL := Lib.hid (show (b ++ leL r n).length ≤ 1000008 by rw [List.length_append, leL_length]; have := HL.out; omega)
      clear hlt
      go_wp2_with (refine app_list rfl TB.out (.tmp 9) (.tmp 16) rfl base u0 (b ++ leL r n) [z] (some ⟨wr.heap.size, 0, none⟩) 1 1 rfl rfl rfl (O.out.alloc _) (RdB.one (row_cell (fr := (0, 0)) (ha_new wr _ _ rfl) 0 rfl)) ?c1 ?c2 ?_)
      case c1 => have := SZ.out; rw [ha_size]; omega
      case c2 => have := LL.out; omega
      intro v2 w2 ho hg _
      have B2 : Below base w (wr.alloc (.cells #[.int .u8 (z.toNat : Int)] 5)) := S.out.alloc SZ.out _
      have S2 := Lib.hid (B2.trans (grown_below hg (by rw [ha_size]; have := SZ.out; omega) (fun k e => (O.out.lt k e).1)))
      have SZ2 := Lib.hid (show base ≤ w2.heap.size by have := hg.size; rw [ha_size] at this; have := SZ.out; omega)
      have O2 := Lib.hid (show OwnB w2 base v2 (b ++ leL (r + 1) n) by rw [leL_succ, ← hz.out]; exact ho)
      clear ho hg B2 hD
      go_wp2_with fail
      go_roundw
      case rel => exact ⟨r + 1, by have := R8.out; omega, by go_num, O2.out, S2.out, SZ2.out⟩
      case measure => have := R8.out; simp [intOf]; omega
    · have hD : decide ((r : Int) < 8) = false := by simp; omega
      have RE := Lib.hid (show r = 8 by have := R.out; omega)
      go_wp2_with fail
      go_ret
      exact ⟨_, rfl, by have := O.out; rwa [RE.out] at this, S.out⟩
end Go.Proofs.Ytdheopihcohciaa
