/- kdf.Expand: so many bytes of a key, for something. No condition but those each theorem states. -/
import Derived.Test.YtimdlnamicgdnaaKdfMac
import Derived.Test.YtimdlnamicgdnaaHelp
namespace Go.Proofs.Ytimdlnamicgdnaa
set_option linter.unusedVariables false
set_option linter.unusedSimpArgs false
open Go.RowKit
attribute [local go_sem ↓] Go.wp_at_zero Go.wp_at_succ

/-- The last block, behind so many of them. -/
def lastX (k info : List UInt8) : Nat → List UInt8
  | 0 => []
  | i + 1 => macL k (lastX k info i ++ info ++ [UInt8.ofNat (i + 1)])
/-- So many blocks. -/
def expX (k info : List UInt8) : Nat → List UInt8
  | 0 => []
  | i + 1 => expX k info i ++ lastX k info (i + 1)
theorem lastX_length (k info : List UInt8) (i : Nat) : (lastX k info (i + 1)).length = 32 := macL_length _ _
theorem lastX_le (k info : List UInt8) : ∀ i, (lastX k info i).length ≤ 32
  | 0 => by simp [lastX]
  | i + 1 => by rw [lastX_length]; omega
theorem expX_length (k info : List UInt8) (i : Nat) : (expX k info i).length = 32 * i := by
  induction i with
  | zero => rfl
  | succ i ih => rw [expX, List.length_append, ih, lastX_length]; omega
/-- How many blocks hold so many bytes. -/
def needX (n : Nat) : Nat := (n + 31) / 32
/-- The bytes. -/
def expandL (k info : List UInt8) (n : Nat) : List UInt8 := (expX k info (needX n)).take n
theorem expandL_length (k info : List UInt8) (n : Nat) : (expandL k info n).length = n := by
  rw [expandL, List.length_take, expX_length, needX]; omega
theorem byte_ofNat (i : Nat) : ∃ z : UInt8, Hid (z = UInt8.ofNat i) ∧ IntKind.u8.wrap (i : Int) = (z.toNat : Int) := by
  refine ⟨_, rfl, ?_⟩
  rw [IntKind.wrap_u8]
  simp
def KeyB (w : World) (M : Nat) (k : List UInt8) (W : World) : Prop := Below w.heap.size w W ∧ W.heap[M]? = some (.cells (W8 k) 33 (0, 0)) ∧ w.heap.size ≤ M
theorem KeyB.keep {w W W' : World} {M : Nat} {k : List UInt8} (h : KeyB w M k W) (hb : Below W.heap.size W W') : KeyB w M k W' := ⟨h.1.trans (hb.mono h.1.size), below_block hb (row_lt h.2.1) h.2.1, h.2.2⟩
/-- What is answered. -/
def ExpR (k info : List UInt8) (m : Int) (e : Ending) (w' : World) : Prop :=
  ((m < 0 ∨ 8160 < m) ∧ e = .returned (.tuple #[.slice none 0 0, .bool false])) ∨ (0 ≤ m ∧ m ≤ 8160 ∧ ∃ A' : Option Addr, e = .returned (.tuple #[.slice A' m.toNat m.toNat, .bool true]) ∧ RdB w' A' (expandL k info m.toNat))
set_option maxRecDepth 100000 in
set_option maxHeartbeats 4000000 in
theorem expand_any (w : World) (k : List UInt8) (hk : k.length = 32) (A : Option Addr) (n c : Nat) (info : List UInt8) (hn : info.length = n) (hc : n ≤ c) (hR : RdB w A info) (hib : n ≤ 140737488340000) (m : Int) (hm : -9223372036854775808 ≤ m ∧ m ≤ 9223372036854775807) :
    Calls Try.prog 15 #[.agg (W8 k), .slice A n c, .int .i64 m] w fun e w' => Below w.heap.size w w' ∧ ExpR k info m e w' := by
  have HK := Lib.hid hk
  have HN := Lib.hid hn
  have HC := Lib.hid hc
  have HR := Lib.hid hR
  have HB := Lib.hid hib
  have HM := Lib.hid hm
  have TB := Lib.hid (show ByteT Try.prog from ⟨Try.underlying22, by kernel_rfl⟩)
  obtain ⟨i0, hi, hz0, hz1, hz2⟩ := info_parts (show (Try.prog.info? 5).map (fun i => (i.zero, i.size, i.bytes)) = some (some (.int .u8 0), 1, 1) by kernel_rfl)
  have I0 := Lib.hid hi
  have I2 := Lib.hid hz1
  clear hk hn hc hR hib hm hi hz0 hz1 hz2
  go_enter Try.func15, Try.ntmps15
  by_cases h0 : m < 0
  · have hD : decide (m < (0 : Int)) = true := by simp; omega
    go_wp2_with fail
    go_ret2
    exact ⟨(Below.refl _ _).alloc (Nat.le_refl _) _, .inl ⟨.inl h0, rfl⟩⟩
  · have hD : decide (m < (0 : Int)) = false := by simp; omega
    by_cases h1 : 8160 < m
    · have hE : decide ((8160 : Int) < m) = true := by simp; omega
      go_wp2_with fail
      go_ret2
      exact ⟨(Below.refl _ _).alloc (Nat.le_refl _) _, .inl ⟨.inr h1, rfl⟩⟩
    · have hE : decide ((8160 : Int) < m) = false := by simp; omega
      obtain ⟨z, rfl⟩ : ∃ z : Nat, m = (z : Int) := ⟨m.toNat, by omega⟩
      have Z := Lib.hid (show z ≤ 8160 by omega)
      have zb : (z : Int) ≤ 8160 := by omega
      go_upto_region 3 with fail
      clear hD hE h0 h1
      generalize hM : Array.size (World.heap w) = M
      generalize hw : World.alloc w _ = w1
      have S := Lib.hid (show KeyB w M k w1 by rw [← hw, ← hM]; exact ⟨(Below.refl _ _).alloc (Nat.le_refl _) _, ha_new _ _ _ rfl, Nat.le_refl _⟩)
      clear hw
      have MW := Lib.hid hM
      clear hM
      go_wp2_with fail
      go_loopw [8, 9, 10, 11] (fun u v i _ wr => ∃ (j : Nat) (Al : Option Addr) (cl : Nat), 32 * j < z + 32 ∧ i = .int .i64 ((j + 1 : Nat) : Int) ∧ OwnB wr w1.heap.size u (expX k info j) ∧ v = .slice Al (lastX k info j).length cl ∧ (lastX k info j).length ≤ cl ∧ RdB wr Al (lastX k info j) ∧ (∀ g, u.ownBlock = some g → ∀ a, Al = some a → a.block ≠ g) ∧ Below w1.heap.size w1 wr) (fun _ _ i _ _ => 300 - (intOf i).toNat)
      case atStart => exact ⟨0, none, 0, by omega, rfl, OwnB.nil _ _, rfl, by simp [lastX], RdB.nil _ _, by simp, Below.refl _ _⟩
      case round =>
        obtain ⟨j, Al, cl, hj, rfl, ho, rfl, hcl, hrl, hne, hbel⟩ := hrel
        obtain ⟨j1, hj1⟩ : ∃ q, q = j + 1 := ⟨_, rfl⟩
        rw [← hj1]
        have J1 := Lib.hid hj1
        have J := Lib.hid hj
        have O := Lib.hid ho
        have RL := Lib.hid hrl
        have NE := Lib.hid hne
        have D := Lib.hid hbel
        have CL := Lib.hid hcl
        have EL := expX_length k info j
        have XL := Lib.hid (lastX_le k info j)
        obtain ⟨q, hq⟩ : ∃ q, q = (lastX k info j).length := ⟨_, rfl⟩
        rw [← hq] at CL XL ⊢
        have QE := Lib.hid hq.symm
        obtain ⟨Ax, cx, rfl, hxr, hxl, _, _⟩ := O.out.read
        obtain ⟨ex, hex⟩ : ∃ ex, ex = expX k info j := ⟨_, rfl⟩
        rw [← hex] at O EL hxr hxl ⊢
        have XE := Lib.hid hex
        obtain ⟨p, hp⟩ : ∃ p, p = ex.length := ⟨_, rfl⟩
        rw [← hp] at O EL hxl ⊢
        have PE := Lib.hid hp.symm
        have P32 := Lib.hid EL
        have XR := Lib.hid hxr
        have XC := Lib.hid hxl
        have jb : (j1 : Int) ≤ 300 := by have := Z.out; omega
        have pb : (p : Int) ≤ 10000 := by have := Z.out; omega
        clear hj ho hrl hne hbel hcl hq hxr hxl hex hp EL hj1
        by_cases hlt : p < z
        · have hD : decide ((p : Int) < (z : Int)) = true := by simp; omega
          obtain ⟨bz, hbz, e1⟩ := byte_ofNat j1
          have S1 := Lib.hid (S.out.keep D.out)
          go_wp2_with (refine wpList_val rfl (run_arr_all 33 (.tmp 3) rfl 32 5 Try.underlying33 I0.out M rfl _) ?_)
          generalize hB : Array.size (World.heap wr) = NB
          generalize hw2 : World.alloc wr _ = w2
          generalize hw3 : World.alloc w2 _ = w3
          obtain ⟨hr2, _, hb2⟩ := built_one hw2 hB (Below.refl wr.heap.size wr)
          obtain ⟨hv3, hb3⟩ := built_rows (NB := NB + 1) hw3 (by rw [← hw2, ← hB, ha_size])
          have V := Lib.hid hv3
          have RB := Lib.hid (hr2.keep hb3)
          have D3 := Lib.hid (show Below wr.heap.size wr w3 from hb2.trans (hb3.mono hb2.size))
          clear hB hw2 hw3 hr2 hv3 hb2 hb3 e1
          have S3 := Lib.hid (S1.out.keep D3.out)
          refine (mac_any _ (some ⟨M, 0, none⟩) 32 32 k HK.out (Nat.le_refl _) (RdB.row S3.out.2.1) (by omega) (some ⟨NB + 1, 0, none⟩) 3 3 _ [lastX k info j, info, [bz]] rfl V.out (.cons ⟨Al, cl, by rw [QE.out], by rw [QE.out]; exact CL.out, RL.out.keep D3.out⟩ (.cons ⟨A, c, by rw [HN.out], by rw [HN.out]; exact HC.out, HR.out.keep S3.out.1⟩ (.cons ⟨_, 1, rfl, Nat.le_refl _, RB.out⟩ .nil))) (by have := XL.out; have := HB.out; simp [HN.out, QE.out]; omega) (by omega)).mono ?_
          obtain ⟨L, hL⟩ : ∃ L, L = macL k [lastX k info j, info, [bz]].flatten := ⟨_, rfl⟩
          rw [← hL]
          have LE := Lib.hid (show L = lastX k info j1 by rw [hL, J1.out, lastX, ← J1.out, hbz.out]; simp)
          have LL := Lib.hid (show L.length = 32 by rw [hL, macL_length])
          have ZL := Lib.hid (show (Try.prog.info? 24).map (·.size) = some (W8 L).size by rw [W8_size, LL.out]; kernel_rfl)
          rintro e w4 ⟨rfl, hb⟩
          have D4 := Lib.hid (D3.out.trans (hb.mono D3.out.size))
          clear hL hb V RB S3 D3
          go_upto_region 8 with (refine wpList_store_new rfl rfl 24 (.tmp 11) (.tmp 31) rfl (W8 L) rfl rfl ZL.out ?c1 (W8_one _) ?_)
          case c1 => rw [W8_size, LL.out]; rfl
          generalize hB : Array.size (World.heap w4) = M2
          generalize hw : World.alloc w4 _ = w5
          have B5 := Lib.hid (show w5.heap[M2]? = some (.cells (W8 L) 24 (0, 0)) by rw [← hw]; exact ha_new _ _ _ hB.symm)
          have D5 := Lib.hid (show Below wr.heap.size wr w5 by rw [← hw]; exact D4.out.alloc D4.out.size _)
          have M2W := Lib.hid (show wr.heap.size ≤ M2 ∧ M2 < w5.heap.size by rw [← hw, ha_size, ← hB]; have := D4.out.size; omega)
          clear hB hw D4
          have O5 := Lib.hid (O.out.below D5.out)
          go_wp2_with (first
            | (refine wpList_val rfl (run_arr_all 24 (.tmp 11) rfl 32 5 Try.underlying24 I0.out M2 rfl _) ?_)
            | (refine app_list rfl TB.out (.tmp 33) (.tmp 34) rfl w1.heap.size _ ex L (some ⟨M2, 0, none⟩) 32 32 rfl rfl LL.out O5.out (RdB.row B5.out) ?d1 ?d2 ?_))
          case d1 => have := D.out.size; have := D5.out.size; omega
          case d2 => have := PE.out; omega
          intro v1 w6 ho hg hat
          have NE6 := Lib.hid (show ∀ g, v1.ownBlock = some g → M2 ≠ g by
            intro g e
            rcases hat with h | h
            · have := (O.out.lt g (h ▸ e)).2; have := M2W.out.1; omega
            · rw [h] at e; injection e with e; have := M2W.out.2; omega)
          have R6 := Lib.hid ((RdB.row B5.out : RdB w5 (some ⟨M2, 0, none⟩) L).grown hg (fun g e a ea => by
            cases ea
            have := (O.out.lt g e).2
            have := M2W.out.1
            show M2 ≠ g
            omega))
          have D6 := Lib.hid (below_own (D.out.trans (D5.out.mono D.out.size)) O5.out hg)
          have O6 := Lib.hid (show OwnB w6 w1.heap.size v1 (expX k info j1) by rw [J1.out, expX, ← J1.out, ← LE.out, ← XE.out]; exact ho)
          clear ho hg hat O5 B5
          go_wp2_with fail
          go_roundw
          case rel =>
            refine ⟨j1, _, 32, by have := J1.out; have := P32.out; omega, by go_num, O6.out, by rw [← LE.out, LL.out], by rw [← LE.out, LL.out]; omega, by rw [← LE.out]; exact R6.out, fun g e a ea => ?_, D6.out⟩
            cases ea
            exact NE6.out g e
          case measure => have := J1.out; have := J.out; have := Z.out; simp [intOf]; omega
        · have hD : decide ((p : Int) < (z : Int)) = false := by simp; omega
          have JN := Lib.hid (show j = needX z by have := J.out; have := P32.out; unfold needX; omega)
          have hcut := cut_max (P := Try.prog) 22 5 Try.underlying22 I0.out I2.out Ax p cx z (by have := J.out; have := P32.out; have := XC.out; omega)
          go_wp2_with fail
          go_ret2
          refine ⟨S.out.1.trans (D.out.mono S.out.1.size), .inr ⟨by omega, by have := Z.out; omega, Ax, rfl, ?_⟩⟩
          show RdB wr Ax (expandL k info z)
          rw [expandL, ← JN.out, ← XE.out]
          exact XR.out.take z
end Go.Proofs.Ytimdlnamicgdnaa
