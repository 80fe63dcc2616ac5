/- The law ChunkCuts, walked. -/
import Derived.Test.YtihllbhmnkckaaaCutInt
import Derived.Test.YtihllbhmnkckaaaCutByte
import Derived.Test.YtihllbhmnkckaaaJoinInt
import Derived.Test.YtihllbhmnkckaaaChunkOne
namespace Go.Proofs.Ytihllbhmnkckaaa
set_option linter.unusedVariables false
set_option linter.unusedSimpArgs false
open Go.RowKit
attribute [local go_sem ↓] Go.wp_at_zero Go.wp_at_succ

def VI (zs : List Int) : List Value := zs.map (Value.int .i64)
theorem VI_length (zs : List Int) : (VI zs).length = zs.length := by simp [VI]
theorem VI_one (zs : List Int) : ∀ u ∈ VI zs, u.oneCell' = true := by
  intro u hu
  simp only [VI, List.mem_map] at hu
  obtain ⟨x, _, rfl⟩ := hu
  rfl
theorem VI_get (zs : List Int) (j : Nat) (hj : j < zs.length) : (VI zs)[j]? = some (.int .i64 (zs.getD j 0)) := by simp [VI, hj]
theorem max_ex (size : Int) : ∃ N : Nat, (if size < 1 then (1 : Int) else size) = (N : Int) ∧ 0 < N := by
  by_cases h : size < 1
  · exact ⟨1, by rw [if_pos h]; rfl, by omega⟩
  · exact ⟨size.toNat, by rw [if_neg h]; omega, by omega⟩

/-- What stays as it is while the law is asked. -/
structure CtW (w : World) (A : Option Addr) (l : List Value) (A5 : Option Addr) (ss : List Value) (L : List (List Value)) (W : World) : Prop where
  r1 : RdV W A l
  r2 : RdV W A5 ss
  r3 : All2 (InRow W none) ss L
  b1 : ∀ a, A = some a → a.block < W.heap.size
  b2 : ∀ a, A5 = some a → a.block < W.heap.size
  bel : Below w.heap.size w W
theorem CtW.below {w W W' : World} {A A5 : Option Addr} {l ss : List Value} {L : List (List Value)} (h : CtW w A l A5 ss L W) (hb : Below W.heap.size W W') : CtW w A l A5 ss L W' where
  r1 := h.r1.below hb h.b1
  r2 := h.r2.below hb h.b2
  r3 := h.r3.mono fun s l hs => hs.grown (grown_of_below hb) (.inl rfl) (.inl rfl)
  b1 := fun a e => Nat.lt_of_lt_of_le (h.b1 a e) hb.size
  b2 := fun a e => Nat.lt_of_lt_of_le (h.b2 a e) hb.size
  bel := h.bel.trans (hb.mono h.bel.size)

set_option maxRecDepth 100000 in
set_option maxHeartbeats 2000000 in
theorem chunkCuts_walk (w : World) (A : Option Addr) (c : Nat) (zs0 : List Int) (hR0 : RdV w A (VI zs0)) (hc0 : zs0.length ≤ c) (hcm : c ≤ 9223372036854775807) (hlt : ∀ a, A = some a → a.block < w.heap.size) (size : Int) (hsz : -9223372036854775808 ≤ size ∧ size ≤ 9223372036854775807) :
    Calls Try.prog 4 #[.slice A zs0.length c, .int .i64 size] w fun e w' => e = .returned (.bool true) ∧ Below w.heap.size w w' := by
  have HR0 := Lib.hid hR0
  have HL := Lib.hid hlt
  obtain ⟨i0, hi, hz0, hz1, hz2⟩ := info_parts (show (Try.prog.info? 3).map (fun i => (i.zero, i.size, i.bytes)) = some (some (.int .i64 0), 1, 8) by kernel_rfl)
  have I0 := Lib.hid hi
  have I2 := Lib.hid hz1
  clear hi hz0 hz1 hz2 hR0 hlt
  go_enter Try.func4, Try.ntmps4
  go_upto_if 14 with fail
  go_cut [0] (fun b wx => wx = w ∧ ∃ zs : List Int, b = .slice A zs.length c ∧ RdV w A (VI zs) ∧ zs.length ≤ 3000 ∧ zs.length ≤ c)
  case first =>
    by_cases h2 : 3000 < zs0.length
    · have hD : decide ((3000 : Int) < (zs0.length : Int)) = true := by simp; omega
      have hcut := cut_to (P := Try.prog) 25 3 Try.underlying25 I0.out I2.out A zs0.length c 3000 (by omega)
      go_wp2_with fail
      go_meet
      exact ⟨rfl, zs0.take 3000, by rw [show (zs0.take 3000).length = 3000 by rw [List.length_take]; omega], by have := HR0.out.take 3000; rw [show VI (zs0.take 3000) = (VI zs0).take 3000 by simp [VI, List.map_take]]; exact this, by rw [List.length_take]; omega, by rw [List.length_take]; omega⟩
    · have hD : decide ((3000 : Int) < (zs0.length : Int)) = false := by simp; omega
      go_wp2_with fail
      go_meet
      exact ⟨rfl, zs0, rfl, HR0.out, by omega, hc0⟩
  case rest =>
    clear HR0 hc0
    obtain ⟨rfl, zs, rfl, hr, hl3, hlc⟩ := hcut
    obtain ⟨n, hn⟩ : ∃ n, n = zs.length := ⟨_, rfl⟩
    rw [← hn] at hl3 hlc ⊢
    have HN := Lib.hid hn
    have HR := Lib.hid hr
    clear hn hr
    obtain ⟨N, hN, hN0⟩ := max_ex size
    have NV := Lib.hid hN
    go_wp2_with fail
    refine (cutInt_any wc A n c (VI zs) size N hN hN0 (by rw [VI_length]; exact HN.out.symm) HR.out (VI_one zs) HL.out hlc (by omega)).mono ?_
    rintro e w1 ⟨v, ss, rfl, ho, hall, hb1⟩
    obtain ⟨A5, c5, rfl, hr5, hl5, hm5, hb5⟩ := ho.read
    obtain ⟨L, hL⟩ : ∃ L, L = cutL N (VI zs) := ⟨_, rfl⟩
    rw [← hL] at hall
    have EL := Lib.hid hL
    obtain ⟨q, hq⟩ : ∃ q, q = ss.length := ⟨_, rfl⟩
    rw [← hq] at hl5 ⊢
    have HQ := Lib.hid hq
    have LQ := Lib.hid (show L.length = q by rw [hq]; exact hall.length.symm)
    have QN := Lib.hid (show q ≤ 3000 by
      have := cutL_length N hN0 _ (VI zs) (Nat.le_refl _)
      rw [← hL, VI_length, ← HN.out] at this
      have h2 : (n + N - 1) / N ≤ n := by
        by_cases h : n = 0
        · subst h; rw [Nat.div_eq_of_lt (by omega)]; omega
        · calc (n + N - 1) / N ≤ (n * N) / N := Nat.div_le_div_right (by have := Nat.mul_le_mul_left (n - 1) hN0; obtain ⟨k, rfl⟩ : ∃ k, n = k + 1 := ⟨n - 1, by omega⟩; simp at this; rw [Nat.add_mul]; omega)
            _ = n := Nat.mul_div_cancel _ hN0
      rw [hq, ← hall.length, this] at *
      omega)
    have T1 := Lib.hid (show CtW wc A (VI zs) A5 ss L w1 from ⟨HR.out.below hb1 HL.out, hr5, hall.mono fun s l hs => hs.grown (World.grownBy.refl _ none) (.inl rfl) (.inr (.inr rfl)), fun a e => Nat.lt_of_lt_of_le (HL.out a e) hb1.size, fun a e => (hb5 a e).2, hb1⟩)
    clear ho hall hb1 hr5 hm5 hb5 hL hq
    go_wp2_with fail
    go_loopw [7] (fun i wr => ∃ j : Nat, j ≤ q ∧ i = .int .i64 (j : Int) ∧ CtW wc A (VI zs) A5 ss L wr) (fun i _ => q - (intOf i).toNat)
    case atStart => exact ⟨0, by omega, rfl, T1.out⟩
    case round =>
      obtain ⟨j, hj, rfl, ht⟩ := hrel
      have T2 := Lib.hid ht
      clear ht T1 w1
      have hq := QN.out
      by_cases hlt : j < q
      · have hD : decide ((j : Int) < (q : Int)) = true := by simp; omega
        obtain ⟨p, hp, p1, p2, p3⟩ := cutL_part N hN0 (VI zs) j (by rw [← EL.out, LQ.out]; exact hlt)
        rw [← EL.out] at hp p3
        rw [LQ.out] at p3
        obtain ⟨s, hs, A6, c6, rfl, _, _, _⟩ := T2.out.r3.get j p hp
        obtain ⟨b, o, rfl, a1⟩ := T2.out.r2 j _ hs
        obtain ⟨k, hk⟩ : ∃ k, k = p.length := ⟨_, rfl⟩
        rw [← hk] at p1 p2 p3 a1
        have P3 := Lib.hid p3
        clear hp p3 hk hs
        have g1 : ((k : Int) == 0) = false := by simp; omega
        have g2 : decide ((N : Int) < (k : Int)) = false := by simp; omega
        have g3 : decide (N < k) = false := by simp; omega
        have b1 : (j : Int) < (q : Int) := by omega
        by_cases hlast : j < q - 1
        · have hE : decide ((j : Int) < (q : Int) - 1) = true := by simp; omega
          obtain rfl : k = N := P3.out hlast
          go_wp2_with fail
          go_roundw
          case rel => exact ⟨j + 1, by omega, by go_num, T2.out⟩
          case measure => simp [intOf]; omega
        · have hE : decide ((j : Int) < (q : Int) - 1) = false := by simp; omega
          go_wp2_with fail
          go_roundw
          case rel => exact ⟨j + 1, by omega, by go_num, T2.out⟩
          case measure => simp [intOf]; omega
      · have hD : decide ((j : Int) < (q : Int)) = false := by simp; omega
        go_wp2_with fail
        have FL : Hid (L.flatten = VI zs) := by
          show _ = _
          rw [EL.out]
          exact cutL_flatten N hN0 _ (VI zs) (Nat.le_refl _)
        refine (joinInt_any wr A5 q c5 ss L HQ.out.symm T2.out.r2 T2.out.b2 T2.out.r3 ?o1 (by omega) (by rw [FL.out, VI_length, ← HN.out]; omega)).mono ?_
        case o1 =>
          intro l hl u hu
          refine VI_one zs u ?_
          rw [← FL.out]
          exact List.mem_flatten.2 ⟨l, hl, hu⟩
        rintro e w2 ⟨v, rfl, ho, hb2⟩
        obtain ⟨A7, c7, rfl, hr7, hl7, hm7, hb7⟩ := ho.read
        rw [FL.out] at hr7 hl7 ho ⊢
        rw [VI_length, ← HN.out] at hl7 ⊢
        have R7 := Lib.hid hr7
        have B7 := Lib.hid (fun a e => (hb7 a e).2)
        have T3 := Lib.hid (T2.out.below hb2)
        clear ho hr7 hm7 hb7 hb2 T2 wr
        go_wp2_with fail
        go_loopw [9] (fun i wr => ∃ j : Nat, j ≤ n ∧ i = .int .i64 (j : Int) ∧ CtW wc A (VI zs) A5 ss L wr ∧ RdV wr A7 (VI zs) ∧ ∀ a, A7 = some a → a.block < wr.heap.size) (fun i _ => n - (intOf i).toNat)
        case atStart => exact ⟨0, by omega, rfl, T3.out, R7.out, B7.out⟩
        case round =>
          clear hD hlt hj
          obtain ⟨j, hj, rfl, ht, hr, hb⟩ := hrel
          have T4 := Lib.hid ht
          have R8 := Lib.hid hr
          have B8 := Lib.hid hb
          clear ht hr hb T3 R7 B7 w2
          by_cases hlt : j < n
          · have hD : decide ((j : Int) < (n : Int)) = true := by simp; omega
            have b1 : (j : Int) < (n : Int) := by omega
            obtain ⟨z, hz⟩ : ∃ z, z = zs.getD j 0 := ⟨_, rfl⟩
            have hg := VI_get zs j (by rw [← HN.out]; exact hlt)
            rw [← hz] at hg
            obtain ⟨b, o, rfl, a1⟩ := T4.out.r1 j _ hg
            obtain ⟨b', o', rfl, a2⟩ := R8.out j _ hg
            clear hg hz
            go_wp2_with fail
            go_region
            go_wp2_with fail
            go_roundw
            case rel => exact ⟨j + 1, by omega, by go_num, T4.out.below (Below.refl _ _).drew, R8.out.below (B := wr.heap.size) (Below.refl _ _).drew B8.out, B8.out⟩
            case measure => simp [intOf]; omega
          · have hD : decide ((j : Int) < (n : Int)) = false := by simp; omega
            have hmk := make_run n (by omega)
            go_wp2_with fail
            clear hmk
            obtain ⟨M, hM⟩ : ∃ M, M = wr.heap.size := ⟨_, rfl⟩
            rw [← hM]
            refine calls_abs (fun W => W.heap[M]? = some (.cells (W8 (List.replicate n 0)) 5 (0, 0)) ∧ Below wc.heap.size wc W ∧ M < W.heap.size) ⟨ha_new _ _ _ hM, T4.out.bel.alloc T4.out.bel.size _, by rw [ha_size]; omega⟩ ?_
            rintro w3 ⟨hg3, hb3, hs3⟩
            refine (pad_any w3 (some ⟨M, 0, none⟩) n n (List.replicate n 0) (by simp) (RdB.row hg3) (fun a e => by cases e; exact hs3) (by omega)).mono ?_
            rintro e w4 ⟨v, rfl, ho, hb4⟩
            obtain ⟨A9, c9, rfl, hr9, hl9, hm9, hb9⟩ := ho.read
            have hpl : (padL (List.replicate n (0 : UInt8))).length = padN n := by rw [padL_length _ (by simp; omega)]; simp
            rw [hpl] at hl9 ⊢
            obtain ⟨p, hp⟩ : ∃ p, p = padN n := ⟨_, rfl⟩
            have hp2 := padN_le n
            rw [← hp] at hl9 hpl hp2 ⊢
            obtain ⟨pl, hpl2⟩ : ∃ pl, pl = padL (List.replicate n (0 : UInt8)) := ⟨_, rfl⟩
            rw [← hpl2] at hr9 hpl
            have R9 := Lib.hid hr9
            have B9 := Lib.hid (fun a e => (hb9 a e).2)
            have B4 := Lib.hid (hb3.trans (hb4.mono hb3.size))
            have PL := Lib.hid hpl
            have PP := Lib.hid hp
            clear ho hr9 hm9 hb9 hb4 hb3 hs3 hg3 hM hpl hpl2 hp T4 R8 B8 w3
            go_wp2_with fail
            refine (cutByte_any w4 A9 p c9 (B8 pl) 2048 2048 (by decide) (by omega) (by rw [B8_length]; exact PL.out) R9.out.toV (B8_one _) B9.out hl9 (by omega)).mono ?_
            rintro e w5 ⟨v, ss2, rfl, ho, hall, hb5⟩
            obtain ⟨A10, c10, rfl, _, hl10, _, _⟩ := ho.read
            have hlen : ss2.length = (p + 2047) / 2048 := by
              rw [hall.length, cutL_length 2048 (by omega) _ (B8 pl) (Nat.le_refl _), B8_length, PL.out]
              omega
            rw [hlen] at hl10 ⊢
            have B5 := Lib.hid (B4.out.trans (hb5.mono B4.out.size))
            clear ho hall hb5 hlen
            obtain ⟨k, hk⟩ : ∃ k, k = (p + 2047) / 2048 := ⟨_, rfl⟩
            rw [← hk] at hl10 ⊢
            have KK := Lib.hid hk
            clear hk
            go_wp2_with fail
            refine (count_any w5 (n : Int)).mono ?_
            rintro e w6 ⟨rfl, rfl⟩
            rw [padI_nat, ← PP.out, ← KK.out]
            go_wp2_with fail
            refine (chunkOne_true _).mono ?_
            rintro e w7 ⟨rfl, hb7⟩
            go_wp2_with fail
            go_ret
            exact ⟨rfl, B5.out.trans (hb7.mono B5.out.size)⟩
end Go.Proofs.Ytihllbhmnkckaaa
