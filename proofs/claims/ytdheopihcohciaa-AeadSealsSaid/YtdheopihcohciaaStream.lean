/- A text laid over the key's bytes. -/
import Derived.Test.YtdheopihcohciaaProg
import Derived.Test.YtdheopihcohciaaBlock
import Derived.Deep.RegionHeld3
import Derived.Deep.DrawnRows
namespace Go.Proofs.Ytdheopihcohciaa
set_option linter.unusedVariables false
set_option linter.unusedSimpArgs false
open Go.RowKit
attribute [local go_sem ↓] Go.wp_at_zero Go.wp_at_succ

def keyByte (k n : List UInt8) (count : UInt32) (i : Nat) : UInt8 := (blockL k n (count + UInt32.ofNat (i / 64))).getD (i % 64) 0
/-- A text laid over the key's bytes, from a block on. -/
def streamL (k n : List UInt8) (count : UInt32) (bs : List UInt8) : List UInt8 := (List.range bs.length).map fun i => bs.getD i 0 ^^^ keyByte k n count i
theorem streamL_length (k n : List UInt8) (count : UInt32) (bs : List UInt8) : (streamL k n count bs).length = bs.length := by simp [streamL]
theorem streamL_get (k n : List UInt8) (count : UInt32) (bs : List UInt8) (i : Nat) (hi : i < bs.length) : (streamL k n count bs)[i]? = some (bs.getD i 0 ^^^ keyByte k n count i) := by simp [streamL, hi]
theorem streamL_snoc (k n : List UInt8) (count : UInt32) (bs : List UInt8) (i : Nat) (hi : i < bs.length) :
    (streamL k n count bs).take (i + 1) = (streamL k n count bs).take i ++ [bs.getD i 0 ^^^ keyByte k n count i] := by
  have h : i < (streamL k n count bs).length := by rw [streamL_length]; exact hi
  rw [List.take_add_one, streamL_get _ _ _ _ _ hi]
  rfl
theorem streamL_take_length (k n : List UInt8) (count : UInt32) (bs : List UInt8) (i : Nat) (hi : i ≤ bs.length) : ((streamL k n count bs).take i).length = i := by
  rw [List.length_take, streamL_length]; omega
theorem xor_ex (a b : UInt8) : ∃ z : UInt8, Hid (z = a ^^^ b) ∧ bits .xor .u8 (a.toNat : Int) (b.toNat : Int) = (z.toNat : Int) := ⟨_, rfl, u8_xor' a b⟩
theorem min_ex (r : Nat) (h0 : 0 < r) : ∃ m : Nat, (if (64 : Int) < (r : Int) then (64 : Int) else (r : Int)) = (m : Int) ∧ m ≤ r ∧ m ≤ 64 ∧ 0 < m ∧ (m = r ∨ m = 64) := by
  by_cases h : 64 < r
  · exact ⟨64, by rw [if_pos (by omega)]; rfl, by omega, by omega, by omega, .inr rfl⟩
  · exact ⟨r, by rw [if_neg (by omega)], by omega, by omega, by omega, .inl rfl⟩
theorem count_ex (c : UInt32) : ∃ z : UInt32, Hid (z = c + 1) ∧ ((c.toNat : Int) + 1) % 4294967296 = (z.toNat : Int) := ⟨_, rfl, by rw [UInt32.toNat_add]; simp⟩

/-- The call's own two variables. -/
structure StrW (w : World) (k n : List UInt8) (W : World) : Prop where
  bk : W.heap[w.heap.size]? = some (.cells (W8 k) 23 (0, 0))
  bn : W.heap[w.heap.size + 1]? = some (.cells (W8 n) 27 (0, 0))
  bel : Below w.heap.size w W
theorem StrW.size {w W : World} {k n : List UInt8} (h : StrW w k n W) : w.heap.size + 1 < W.heap.size := row_lt h.bn
theorem StrW.grown {w W W' : World} {k n : List UInt8} {r : Option Nat} (h : StrW w k n W) (hg : W.grownBy W' r) (hr : ∀ g, r = some g → w.heap.size + 1 < g) : StrW w k n W' where
  bk := grown_block hg (fun e => by have := hr _ e.symm; omega) h.bk
  bn := grown_block hg (fun e => by have := hr _ e.symm; omega) h.bn
  bel := h.bel.trans (grown_below hg (Nat.le_of_lt (row_lt h.bk)) (fun g e => by have := hr g e; omega))
theorem StrW.below {w W W' : World} {k n : List UInt8} (h : StrW w k n W) (hb : Below W.heap.size W W') : StrW w k n W' := h.grown (grown_of_below hb) (fun g e => by cases e)
theorem str_start (w : World) (k n : List UInt8) : StrW w k n ((w.alloc (.cells (W8 k) 23)).alloc (.cells (W8 n) 27)) where
  bk := ha_old _ _ _ (by simp) (ha_new _ _ _ rfl)
  bn := ha_new _ _ _ (by simp)
  bel := ((Below.refl _ _).alloc (Nat.le_refl _) _).alloc (by simp) _

set_option maxRecDepth 100000 in
set_option maxHeartbeats 1000000 in
theorem stream_any (k n : List UInt8) (hk : k.length = 32) (hn : n.length = 12) (count : UInt32) (w : World) (A : Option Addr) (c : Nat) (bs : List UInt8) (hR : RdB w A bs) (hlc : bs.length ≤ c) (hb : bs.length ≤ 70368744177664)
    (hlt : ∀ a, A = some a → a.block < w.heap.size) :
    Calls Try.prog 14 #[.agg (W8 k), .agg (W8 n), .int .u32 (count.toNat : Int), .slice A bs.length c] w fun e w' =>
      ∃ v, e = .returned v ∧ OwnB w' w.heap.size v (streamL k n count bs) ∧ Below w.heap.size w w' := by
  have HK := Lib.hid hk
  have HN := Lib.hid hn
  have HR := Lib.hid hR
  have HLT := Lib.hid hlt
  have HC := Lib.hid hlc
  have HB := Lib.hid hb
  clear hk hn hR hlt hlc
  have TB := Lib.hid (show ByteT Try.prog from ⟨Try.underlying24, by kernel_rfl⟩)
  obtain ⟨i0, hi, hz0, hz1, hz2⟩ := info_parts (show (Try.prog.info? 5).map (fun i => (i.zero, i.size, i.bytes)) = some (some (.int .u8 0), 1, 1) by kernel_rfl)
  have ZK := Lib.hid (show (Try.prog.info? 23).map (·.size) = some (W8 k).size by rw [W8_size, HK.out]; kernel_rfl)
  have ZN := Lib.hid (show (Try.prog.info? 27).map (·.size) = some (W8 n).size by rw [W8_size, HN.out]; kernel_rfl)
  have ZB := fun cq => Lib.hid (show (Try.prog.info? 44).map (·.size) = some (W8 (blockL k n cq)).size by rw [W8_size, blockL_length]; kernel_rfl)
  have HZB := Lib.hid ZB
  clear ZB
  have I0 := Lib.hid hi
  have I1 := Lib.hid hz0
  have I2 := Lib.hid hz1
  have I3 := Lib.hid hz2
  clear hi hz0 hz1 hz2
  go_enter Try.func14, Try.ntmps14
  go_upto_region 1 with fail
  refine wp_abs (fun W => StrW w k n W) (str_start w k n) ?_
  intro w0 H0'
  have H0 := Lib.hid H0'
  clear H0'
  go_wp2_with (refine wpList_make_own w0 rfl (.const (.int .i64 0)) (.tmp 14) 24 rfl (w.heap.size + 1 + 1) 5 i0 (.int .u8 0) 1 Try.underlying24 I0.out I1.out I2.out .i64 .i64 _ bs.length rfl rfl rfl (by rw [I3.out]; omega) (by unfold maxLen; omega) (by have := H0.out.size; omega) ?_; intro w1 HO1' HG1')
  refine wp_abs (fun W => StrW w k n W ∧ OwnB W (w.heap.size + 1 + 1) (.slice (some ⟨w0.heap.size, 0, none⟩) 0 bs.length) []) ⟨H0.out.grown HG1' (by intro g e; cases e), HO1'⟩ ?_
  generalize (Value.slice (some ⟨w0.heap.size, 0, none⟩) 0 bs.length) = v0
  rintro w2 ⟨H2', O2'⟩
  have H2 := Lib.hid H2'
  have O2 := Lib.hid O2'
  clear HO1' HG1' H2' O2' w1 H0 w0 hb
  go_loopw [2, 3, 9] (fun x b v wr => ∃ q p r A' c', p + r = bs.length ∧ (r = 0 ∨ p = 64 * q) ∧ r ≤ c' ∧ x = .int .u32 ((count + UInt32.ofNat q).toNat : Int) ∧ b = .slice A' r c' ∧ RdB w A' (bs.drop p) ∧ (∀ a, A' = some a → a.block < w.heap.size) ∧
      OwnB wr (w.heap.size + 1 + 1) v ((streamL k n count bs).take p) ∧ StrW w k n wr) (fun _ b _ _ => lenOf b)
  case atStart => exact ⟨0, 0, bs.length, A, c, by omega, .inr rfl, HC.out, by simp, rfl, HR.out, HLT.out, O2.out, H2.out⟩
  case round =>
    obtain ⟨q, p, r, A1, c1, hpr, hrq, hrc, rfl, rfl, hR1, hlt1, hO1, hS1⟩ := hrel
    have HPR := Lib.hid hpr
    have HRQ := Lib.hid hrq
    have HRC := Lib.hid hrc
    have R1 := Lib.hid hR1
    have L1 := Lib.hid hlt1
    have O1 := Lib.hid hO1
    have S1 := Lib.hid hS1
    clear hpr hrq hrc hR1 hlt1 hO1 hS1 H2 O2 w2
    have HX := Lib.hid (show (count + UInt32.ofNat q) = (count + UInt32.ofNat q) from rfl)
    generalize hcq : count + UInt32.ofNat q = cq
    have HCQ := Lib.hid hcq
    clear hcq HX
    by_cases h0 : 0 < r
    · have hD : decide ((0 : Int) < (r : Int)) = true := by simp; omega
      have hp : Hid (p = 64 * q) := HRQ.out.resolve_left (by omega)
      go_upto_region 3 with fail
      go_wp2_with (first
        | (refine wpList_load_row rfl 23 (.tmp 4) rfl w.heap.size rfl 23 (W8 k) (0, 0) _ S1.out.bk Try.underlying23 rfl ZK.out ?_)
        | (refine wpList_load_row rfl 27 (.tmp 5) rfl (w.heap.size + 1) rfl 27 (W8 n) (0, 0) _ S1.out.bn Try.underlying27 rfl ZN.out ?_))
      refine (block_any k n HK.out HN.out cq _).mono ?_
      rintro e w3 ⟨rfl, hb3⟩
      obtain ⟨S3', O3'⟩ : StrW w k n w3 ∧ OwnB w3 (w.heap.size + 1 + 1) u9 ((streamL k n count bs).take p) := ⟨S1.out.below hb3, O1.out.below hb3⟩
      have S3 := Lib.hid S3'
      have O3 := Lib.hid O3'
      clear S3' O3' S1 O1 hb3 wr
      go_upto_region 4 with (refine wpList_store_new rfl rfl 44 (.tmp 10) (.tmp 22) rfl (W8 (blockL k n cq)) rfl rfl (HZB.out cq).out ?c1 (W8_one _) ?_)
      case c1 => rw [W8_size, blockL_length]; rfl
      obtain ⟨M, hM⟩ : ∃ M, M = w3.heap.size := ⟨_, rfl⟩
      refine wp_abs (fun W => StrW w k n W ∧ OwnB W (w.heap.size + 1 + 1) u9 ((streamL k n count bs).take p) ∧ W.heap[M]? = some (.cells (W8 (blockL k n cq)) 44 (0, 0)) ∧ u9.ownBlock ≠ some M ∧ w.heap.size + 1 < M)
        ⟨S3.out.below ((Below.refl _ _).alloc (Nat.le_refl _) _), O3.out.alloc _, ha_new _ _ _ hM, fun e => by have := O3.out.lt _ e; omega, by rw [hM]; exact S3.out.size⟩ ?_
      rw [← hM]
      clear hM
      rintro w4 ⟨S4', O4', M4', N4', L4'⟩
      have S4 := Lib.hid S4'
      have O4 := Lib.hid O4'
      have M4 := Lib.hid M4'
      have N4 := Lib.hid N4'
      have L4 := Lib.hid L4'
      clear S4' O4' M4' N4' L4' S3 O3 w3
      obtain ⟨m, hm, hmr, hm64, hm0, hmc⟩ := min_ex r h0
      have HMR := Lib.hid hmr
      have HMC := Lib.hid hmc
      clear hmr hmc
      go_upto_region 5 with fail
      clear hm
      obtain ⟨wo, rfl⟩ : ∃ wo : World, wo = w4 := ⟨_, rfl⟩
      go_wp2_with fail
      go_loopw [9, 27] (fun v i wr => ∃ j : Nat, j ≤ m ∧ i = .int .i64 (j : Int) ∧ OwnB wr (w.heap.size + 1 + 1) v ((streamL k n count bs).take (p + j)) ∧ StrW w k n wr ∧
          wr.heap[M]? = some (.cells (W8 (blockL k n cq)) 44 (0, 0)) ∧ v.ownBlock ≠ some M) (fun _ i _ => m - (intOf i).toNat)
      case atStart => exact ⟨0, by omega, rfl, O4.out, S4.out, M4.out, N4.out⟩
      case round =>
        obtain ⟨j, hj, rfl, hO5, hS5, hM5, hN5⟩ := hrel
        have HJ := Lib.hid hj
        have O5 := Lib.hid hO5
        have S5 := Lib.hid hS5
        have M5 := Lib.hid hM5
        have N5 := Lib.hid hN5
        clear hj hO5 hS5 hM5 hN5 S4 O4 M4 N4 wo
        by_cases hlt : j < m
        · have hD2 : decide ((j : Int) < (m : Int)) = true := by simp; omega
          obtain ⟨b, o, rfl, x, hx, a1⟩ := (R1.out.below S5.out.bel L1.out).get j (by have := HPR.out; have := HMR.out; simp; omega)
          have a2 := row_cell M5.out j (W8_get _ j (by rw [blockL_length]; omega))
          obtain ⟨y, hy⟩ : ∃ y, y = (blockL k n cq).getD j 0 := ⟨_, rfl⟩
          rw [← hy] at a2
          have HY := Lib.hid hy
          clear hy
          obtain ⟨z, hz, e1⟩ := xor_ex x y
          have b1 : (j : Int) < (r : Int) := by have := HMR.out; omega
          have b2 : (j : Int) < 64 := by omega
          go_wp2_with fail
          have ON : Hid (OwnB (wr.alloc (.cells #[.int .u8 (z.toNat : Int)] 5)).drew (w.heap.size + 1 + 1) u9 ((streamL k n count bs).take (p + j))) := (O5.out.alloc _).drew
          have A1 : Hid ((wr.alloc (.cells #[.int .u8 (z.toNat : Int)] 5)).drew.cell? ⟨b, o + j, none⟩ = some (.int .u8 (x.toNat : Int))) := cell_alloc a1 _
          have A2 : Hid ((wr.alloc (.cells #[.int .u8 (z.toNat : Int)] 5)).drew.cell? ⟨M, j, none⟩ = some (.int .u8 (y.toNat : Int))) := cell_alloc a2 _
          have A3 : Hid (RdB (wr.alloc (.cells #[.int .u8 (z.toNat : Int)] 5)).drew (some ⟨wr.heap.size, 0, none⟩) [z]) := RdB.one (row_cell (fr := (0, 0)) (ha_new wr _ _ rfl) 0 rfl)
          have A4 : Hid (w.heap.size + 1 + 1 ≤ (wr.alloc (.cells #[.int .u8 (z.toNat : Int)] 5)).drew.heap.size) := show _ ≤ (wr.alloc (.cells #[.int .u8 (z.toNat : Int)] 5)).heap.size by have := S5.out.size; rw [ha_size]; omega
          have A5 : Hid (((streamL k n count bs).take (p + j)).length + 1 ≤ 140737488355328) := show _ ≤ _ by have := HPR.out; have := HMR.out; have := HB.out; rw [streamL_take_length _ _ _ _ _ (by omega)]; omega
          have A6 : Hid (∀ g, u9.ownBlock = some g → (⟨b, o + j, none⟩ : Addr).block ≠ g) := fun g e => by have := O5.out.lt g e; have := L1.out _ rfl; simp at this ⊢; omega
          have A7 : Hid (∀ g, u9.ownBlock = some g → (⟨M, j, none⟩ : Addr).block ≠ g) := fun g e h => N5.out (by rw [e, ← h])
          go_region_held3 (fun w' => w'.cell? ⟨b, o + j, none⟩ = some (.int .u8 (x.toNat : Int)) ∧ w'.cell? ⟨M, j, none⟩ = some (.int .u8 (y.toNat : Int))) (first | go_keep | exact ⟨cell_grown hg1 A1.out A6.out, cell_grown hg1 A2.out A7.out⟩) ((refine app_step (by rfl) TB.out (.tmp 30) (.tmp 39) (by rfl) (w.heap.size + 1 + 1) u9 ((streamL k n count bs).take (p + j)) [z] (some ⟨wr.heap.size, 0, none⟩) 1 1 (by rfl) (by rfl) (by rfl) ON.out A3.out A4.out A5.out ?_; intro v1 w1 ho1 hg1 hat1))
          have G : Hid (wr.grownBy w1 u9.ownBlock) := World.grownBy.trans (World.grownBy_alloc wr _ _) ⟨hg1.os, hg1.tape, hg1.output, hg1.size, hg1.block⟩
          have HO1 := Lib.hid ho1
          have HAT := Lib.hid hat1
          clear ho1 hat1 hg1 a1 a2 e1 ON A1 A2 A3 A4 A5 A6 A7
          go_wp2_with fail
          go_roundw
          case rel =>
            refine ⟨j + 1, by omega, by go_num, ?_, S5.out.grown G.out (fun g e => by have := O5.out.lt g e; omega), grown_block G.out (fun e => N5.out e.symm) M5.out, fun e => ?_⟩
            · have h1 := HPR.out
              have h2 := HMR.out
              have hz' : bs.getD (p + j) 0 ^^^ keyByte k n count (p + j) = z := by
                rw [hz.out, hx.out, HY.out, keyByte, hp.out, show (64 * q + j) / 64 = q by omega, show (64 * q + j) % 64 = j by omega, HCQ.out]
                simp [List.getD_eq_getElem?_getD, List.getElem?_drop]
              rw [← Nat.add_assoc, streamL_snoc _ _ _ _ _ (by omega), hz']
              exact HO1.out
            · rcases HAT.out with h | h
              · exact N5.out (h.symm.trans e)
              · rw [e] at h
                injection h with h
                have h' : M = wr.heap.size + 1 := by rw [h]; exact ha_size _ _
                have := row_lt M5.out
                omega
          case measure => simp [intOf]; omega
        · have hjm : Hid (j = m) := show j = m by have := HJ.out; omega
          have hD2 : decide ((j : Int) < (m : Int)) = false := by simp; omega
          obtain ⟨A', hcut, hcutR, hcutB⟩ := cut_from (P := Try.prog) 24 5 Try.underlying24 I0.out I2.out A1 r c1 m HMR.out
          have HCR := Lib.hid hcutR
          have HCB := Lib.hid hcutB
          obtain ⟨cq', hcq', e1⟩ := count_ex cq
          clear hcutR hcutB
          go_wp2_with fail
          go_roundw
          case rel =>
            have h1 := HPR.out
            have h2 := HMR.out
            have h3 := HMC.out
            have h4 := HRC.out
            have h5 := hp.out
            refine ⟨q + 1, p + m, r - m, A', c1 - m, by omega, by omega, by omega, ?_, rfl, ?_, fun a ha => ?_, ?_, S5.out⟩
            · rw [e1, hcq'.out, ← HCQ.out, UInt32.add_assoc]
              congr 3
              simp
            · have := HCR.out w (bs.drop p) (by rw [List.length_drop]; omega) h4 R1.out
              rwa [List.drop_drop] at this
            · obtain ⟨a0, ha0, hb⟩ := HCB.out a ha
              rw [hb]
              exact L1.out a0 ha0
            · have := O5.out
              rwa [hjm.out] at this
          case measure => simp [lenOf]; omega
    · have hr0 : Hid (r = 0) := show r = 0 by omega
      have hD : decide ((0 : Int) < (r : Int)) = false := by simp; omega
      go_wp2_with fail
      go_ret
      refine ⟨_, rfl, ?_, S1.out.bel⟩
      have hp : p = bs.length := by have := HPR.out; have := hr0.out; omega
      have := O1.out
      rw [hp, List.take_of_length_le (by rw [streamL_length]; omega)] at this
      exact this.mono (by omega)

theorem stream_len (k n : List UInt8) (hk : k.length = 32) (hn : n.length = 12) (count : UInt32) (w : World) (A : Option Addr) (m c : Nat) (bs : List UInt8) (hm : bs.length = m) (hR : RdB w A bs) (hlc : m ≤ c) (hb : m ≤ 70368744177664)
    (hlt : ∀ a, A = some a → a.block < w.heap.size) :
    Calls Try.prog 14 #[.agg (W8 k), .agg (W8 n), .int .u32 (count.toNat : Int), .slice A m c] w fun e w' =>
      ∃ v, e = .returned v ∧ OwnB w' w.heap.size v (streamL k n count bs) ∧ Below w.heap.size w w' := by
  subst hm
  exact stream_any k n hk hn count w A c bs hR hlc hb hlt
end Go.Proofs.Ytdheopihcohciaa
