/- The words of a block's rounds. -/
import Derived.Test.YtphpcegifdiofaaShaT
import Derived.Test.YtphpcegifdiofaaCuts
import Derived.Test.YtphpcegifdiofaaPlan
namespace Go.Proofs.Ytphpcegifdiofaa
set_option linter.unusedVariables false
set_option linter.unusedSimpArgs false
open Go.RowKit
attribute [local go_sem ↓] Go.wp_at_zero Go.wp_at_succ

set_option maxRecDepth 100000 in
set_option maxHeartbeats 1000000 in
theorem constants_any (w : World) : Calls Try.prog 34 #[] w fun e w' => e = .returned (.agg (W32 constL)) ∧ Below w.heap.size w w' := by
  have Z := Lib.hid (show (Try.prog.info? 58).map (·.size) = some (W32 constL).size by kernel_rfl)
  go_enter Try.func34, Try.ntmps34
  go_wp2_with (refine wpList_store_new rfl rfl 58 (.tmp 0) (.tmp 1) rfl (W32 constL) rfl rfl Z.out ?c1 (W32_one _) ?_)
  case c1 => rfl
  refine bodyPost_ret (results_cell_row rfl _ _ w.heap.size 58 (W32 constL) (0, 0) _ rfl (ha_new _ _ _ rfl) Try.underlying58 rfl Z.out) rfl ?_
  exact ⟨rfl, (Below.refl _ _).alloc (Nat.le_refl _) _⟩

def word4 (b : List UInt8) (t : Nat) : Nat → UInt32
  | 0 => 0
  | j + 1 => word4 b t j <<< 8 ||| (b.getD (4 * t + j) 0).toUInt32
def lowL (x : UInt32) : UInt32 := rotr x 7 ^^^ rotr x 18 ^^^ x >>> 3
def highL (y : UInt32) : UInt32 := rotr y 17 ^^^ rotr y 19 ^^^ y >>> 10
def nextL (l : List UInt32) (t : Nat) : UInt32 := l.getD (t - 16) 0 + lowL (l.getD (t - 15) 0) + l.getD (t - 7) 0 + highL (l.getD (t - 2) 0)
def schedK (b : List UInt8) : Nat → List UInt32
  | 0 => List.replicate 64 0
  | t + 1 => (schedK b t).set t (if t < 16 then word4 b t 4 else nextL (schedK b t) t)
theorem schedK_length (b : List UInt8) (t : Nat) : (schedK b t).length = 64 := by
  induction t with
  | zero => simp [schedK]
  | succ t ih => simp [schedK, ih]
theorem schedK_get (b : List UInt8) : ∀ (t i : Nat), t ≤ i → (schedK b t).getD i 0 = 0
  | 0, i, _ => by
    unfold schedK
    rw [List.getD_eq_getElem?_getD]
    by_cases h : i < 64
    · rw [List.getElem?_eq_getElem (by simpa using h), List.getElem_replicate]; rfl
    · rw [List.getElem?_eq_none (by simp; omega)]; rfl
  | t + 1, i, h => by
    rw [schedK, List.getD_eq_getElem?_getD, List.getElem?_set_ne (by omega), ← List.getD_eq_getElem?_getD]
    exact schedK_get b t i (by omega)
theorem step4 (x : UInt32) (y : UInt8) : bits .or .u32 ((x.toNat : Int) * 256 % 4294967296) (y.toNat : Int) = ((x <<< 8 ||| y.toUInt32).toNat : Int) := by
  have h1 : (x.toNat : Int) * 256 % 4294967296 = ((x.toNat * 256 % 4294967296 : Nat) : Int) := by
    rw [Int.natCast_emod, Int.natCast_mul]; rfl
  have e1 : (8 : UInt32).toNat % 32 = 8 := rfl
  rw [h1, u32_or_nat _ _ (by omega) (by have := y.toNat_lt; omega), UInt32.toNat_or, UInt32.toNat_shiftLeft, e1, Nat.shiftLeft_eq, UInt8.toNat_toUInt32]

theorem shr_low (x : UInt32) (k : Nat) (hk : k < 32) : (x.toNat : Int) / ((2 ^ k : Nat) : Int) = ((x >>> (UInt32.ofNat k)).toNat : Int) := by
  have e1 : (UInt32.ofNat k).toNat = k := by simp; omega
  rw [UInt32.toNat_shiftRight, e1, Nat.mod_eq_of_lt hk, Nat.shiftRight_eq_div_pow, Int.natCast_ediv]
theorem low_ex (x : UInt32) : ∃ z : UInt32, Hid (z = lowL x) ∧ bits .xor .u32 (bits .xor .u32 ((rotr x 7).toNat : Int) ((rotr x 18).toNat : Int)) ((x.toNat : Int) / 8) = (z.toNat : Int) := by
  refine ⟨_, rfl, ?_⟩
  have h := shr_low x 3 (by omega)
  rw [show ((2 ^ 3 : Nat) : Int) = 8 from rfl, show UInt32.ofNat 3 = 3 from rfl] at h
  rw [h, u32_xor', u32_xor']
  rfl
theorem high_ex (x : UInt32) : ∃ z : UInt32, Hid (z = highL x) ∧ bits .xor .u32 (bits .xor .u32 ((rotr x 17).toNat : Int) ((rotr x 19).toNat : Int)) ((x.toNat : Int) / 1024) = (z.toNat : Int) := by
  refine ⟨_, rfl, ?_⟩
  have h := shr_low x 10 (by omega)
  rw [show ((2 ^ 10 : Nat) : Int) = 1024 from rfl, show UInt32.ofNat 10 = 10 from rfl] at h
  rw [h, u32_xor', u32_xor']
  rfl
/-- The call's own: the answer's variable, and the words so far. -/
structure ScW (w : World) (l : List UInt32) (W : World) : Prop where
  bz : W.heap[w.heap.size]? = some (.cells (W32 (List.replicate 64 0)) 58 (0, 0))
  bs : W.heap[w.heap.size + 1]? = some (.cells (W32 l) 58 (0, 0))
  bel : Below w.heap.size w W
theorem ScW.set {w W : World} {l : List UInt32} (h : ScW w l W) (i : Nat) (x : UInt32) : ScW w (l.set i x) (W.setCell ⟨w.heap.size + 1, i, none⟩ (.int .u32 (x.toNat : Int))) where
  bz := grown_block (grown_set (World.grownBy.refl _ _) _ _) (by simp) h.bz
  bs := by rw [heap_setCell_same _ _ _ _ _ _ h.bs, W32_set]
  bel := h.bel.trans (grown_below (grown_set (World.grownBy.refl W (some (w.heap.size + 1))) _ _) (Nat.le_of_lt (row_lt h.bz)) (by rintro g ⟨⟩; omega))
theorem ScW.keep {w W W' : World} {l : List UInt32} (h : ScW w l W) (h' : Below W.heap.size W W') : ScW w l W' where
  bz := below_block h' (row_lt h.bz) h.bz
  bs := below_block h' (row_lt h.bs) h.bs
  bel := h.bel.trans (h'.mono (Nat.le_of_lt (row_lt h.bz)))

set_option maxRecDepth 100000 in
set_option maxHeartbeats 2000000 in
theorem schedule_any (b : List UInt8) (hb : b.length = 64) (w : World) (g o : Nat) (hR : RdB w (some ⟨g, o, none⟩) b) (hg : g < w.heap.size) :
    Calls Try.prog 33 #[.pointer (some ⟨g, o, none⟩)] w fun e w' => e = .returned (.agg (W32 (schedK b 64))) ∧ Below w.heap.size w w' := by
  have HB := Lib.hid hb
  have HR := Lib.hid hR
  have HG := Lib.hid hg
  clear hb hR hg
  obtain ⟨i0, hi, hz0, hz1, hz2⟩ := info_parts (show (Try.prog.info? 5).map (fun i => (i.zero, i.size, i.bytes)) = some (some (.int .u8 0), 1, 1) by kernel_rfl)
  have I0 := Lib.hid hi
  have I2 := Lib.hid hz1
  clear hi hz0 hz1 hz2
  go_enter Try.func33, Try.ntmps33
  go_wp2_with fail
  refine wp_abs (fun W => ScW w (schedK b 0) W) ⟨ha_old _ _ _ (by simp) (ha_new _ _ _ rfl), ha_new _ _ _ (by simp), ((Below.refl _ _).alloc (Nat.le_refl _) _).alloc (by simp) _⟩ ?_
  intro w1 h1
  have H1 := Lib.hid h1
  clear h1
  go_loopw [11] (fun i wr => ∃ t : Nat, t ≤ 64 ∧ i = .int .i64 (t : Int) ∧ ScW w (schedK b t) wr) (fun i _ => 64 - (intOf i).toNat)
  case atStart => exact ⟨0, by omega, rfl, H1.out⟩
  case round =>
    obtain ⟨t, ht, rfl, h2⟩ := hrel
    have H2 := Lib.hid h2
    clear h2 H1 w1
    by_cases hlt : t < 64
    · have hD : decide ((t : Int) < 64) = true := by simp; omega
      by_cases h16 : t < 16
      · have hE : decide ((t : Int) < 16) = true := by simp; omega
        have hX : ∀ W : World, (Instr.sliceAt 68 (.pointer (some ⟨g, o, none⟩)) (some (.int .i64 (4 * (t : Int)))) (some (.int .i64 (4 * (t : Int) + 4))) none).run Try.prog W = .ok (.slice (some ⟨g, o + 4 * t, none⟩) 4 (64 - 4 * t)) W := fun W => by
          have := slice_ptr (P := Try.prog) 68 5 64 Try.underlying68 I0.out I2.out g o (4 * t) (4 * t + 4) (by omega) (by omega) (by omega) W
          rw [show 4 * t + 4 - 4 * t = 4 by omega] at this
          exact this
        go_wp2_with fail
        clear hX
        go_loopw [25] (fun i wq => ∃ j : Nat, j ≤ 4 ∧ i = .int .i64 (j : Int) ∧ ScW w ((schedK b t).set t (word4 b t j)) wq) (fun i _ => 4 - (intOf i).toNat)
        case atStart =>
          refine ⟨0, by omega, rfl, ?_⟩
          have e : (schedK b t).set t (word4 b t 0) = schedK b t := by
            apply List.ext_getElem?
            intro i
            by_cases h : i = t
            · subst h
              rw [List.getElem?_set_self (by rw [schedK_length]; exact hlt)]
              have := schedK_get b i i (Nat.le_refl _)
              rw [List.getD_eq_getElem?_getD, List.getElem?_eq_getElem (by rw [schedK_length]; exact hlt)] at this
              rw [List.getElem?_eq_getElem (by rw [schedK_length]; exact hlt)]
              simp at this
              rw [this]; rfl
            · rw [List.getElem?_set_ne (by omega)]
          rw [e]
          exact H2.out
        case round =>
          obtain ⟨j, hj, rfl, h3⟩ := hrel
          have H3 := Lib.hid h3
          clear h3
          have L3 := Lib.hid (show ((schedK b t).set t (word4 b t j)).length = 64 by rw [List.length_set, schedK_length])
          by_cases hj4 : j < 4
          · have hF : decide ((j : Int) < 4) = true := by simp; omega
            obtain ⟨x, hx⟩ : ∃ x, x = word4 b t j := ⟨_, rfl⟩
            obtain ⟨y, hy⟩ : ∃ y, y = b.getD (4 * t + j) 0 := ⟨_, rfl⟩
            have a1 := row_cell H3.out.bs t (W32_get _ t (by rw [L3.out]; exact hlt))
            rw [show ((schedK b t).set t (word4 b t j)).getD t 0 = x by rw [hx, List.getD_eq_getElem?_getD, List.getElem?_set_self (by rw [schedK_length]; exact hlt)]; rfl] at a1
            have a2 := row_free H3.out.bs t
            obtain ⟨b', o', e', a3⟩ := (HR.out.below H3.out.bel (fun a e => by cases e; exact HG.out)) (4 * t + j) (by rw [HB.out]; omega)
            cases e'
            rw [← hy, ← Nat.add_assoc] at a3
            have X := Lib.hid hx
            have Y := Lib.hid hy
            clear hx hy
            go_wp2_with fail
            go_roundw
            case rel =>
              refine ⟨j + 1, by omega, by go_num, ?_⟩
              rw [show ((y.toNat : Int) % 4294967296) = (y.toNat : Int) by have := y.toNat_lt; omega, step4 x y]
              have := H3.out.set t (x <<< 8 ||| y.toUInt32)
              rw [List.set_set] at this
              rw [word4, ← X.out, ← Y.out]
              exact this
            case measure => simp [intOf]; omega
          · have hj4' : Hid (j = 4) := show j = 4 by omega
            have hF : decide ((j : Int) < 4) = false := by simp; omega
            go_wp2_with fail
            go_roundw
            case rel =>
              refine ⟨t + 1, by omega, by go_num, ?_⟩
              rw [schedK, if_pos h16, ← hj4'.out]
              exact H3.out
            case measure => simp [intOf]; omega
      · have hE : decide ((t : Int) < 16) = false := by simp; omega
        obtain ⟨xa, hxa⟩ : ∃ x, x = (schedK b t).getD (t - 15) 0 := ⟨_, rfl⟩
        obtain ⟨xb, hxb⟩ : ∃ x, x = (schedK b t).getD (t - 2) 0 := ⟨_, rfl⟩
        obtain ⟨xc, hxc⟩ : ∃ x, x = (schedK b t).getD (t - 16) 0 := ⟨_, rfl⟩
        obtain ⟨xd, hxd⟩ : ∃ x, x = (schedK b t).getD (t - 7) 0 := ⟨_, rfl⟩
        have SL := Lib.hid (show (schedK b t).length = 64 from schedK_length b t)
        have a1 := row_cell H2.out.bs (t - 15) (W32_get _ (t - 15) (by rw [SL.out]; omega))
        have a2 := row_cell H2.out.bs (t - 2) (W32_get _ (t - 2) (by rw [SL.out]; omega))
        rw [← hxa] at a1
        rw [← hxb] at a2
        have XA := Lib.hid hxa
        have XB := Lib.hid hxb
        have XC := Lib.hid hxc
        have XD := Lib.hid hxd
        clear hxa hxb hxc hxd
        go_wp2_with fail
        go_region
        obtain ⟨lo, hlo, e1⟩ := low_ex xa
        obtain ⟨hi, hhi, e2⟩ := high_ex xb
        have W1 := Lib.hid (show ScW w (schedK b t) wr.drew from H2.out.keep (Below.refl _ _).drew)
        clear a1 a2
        obtain ⟨w1, hw1⟩ : ∃ w1, w1 = wr.drew := ⟨_, rfl⟩
        have E1 := Lib.hid e1
        have E2 := Lib.hid e2
        clear e1 e2
        go_wp2_with fail
        refine (sturned_any xa 7 _ (by omega) (by omega) (by decide)).mono ?_
        rintro e w' ⟨rfl, rfl⟩
        go_wp2_with fail
        refine (sturned_any xa 18 _ (by omega) (by omega) (by decide)).mono ?_
        rintro e w' ⟨rfl, rfl⟩
        have e1 := E1.out
        go_wp2_with fail
        clear e1
        refine (sturned_any xb 17 _ (by omega) (by omega) (by decide)).mono ?_
        rintro e w' ⟨rfl, rfl⟩
        go_wp2_with fail
        refine (sturned_any xb 19 _ (by omega) (by omega) (by decide)).mono ?_
        rintro e w' ⟨rfl, rfl⟩
        have e2 := E2.out
        go_wp2_with fail
        clear e2 E1 E2 hw1
        obtain ⟨w1, hw1⟩ : ∃ w1, w1 = wr.drew := ⟨_, rfl⟩
        rw [← hw1] at W1 ⊢
        have a1 := row_cell W1.out.bs (t - 16) (W32_get _ (t - 16) (by rw [SL.out]; omega))
        have a2 := row_cell W1.out.bs (t - 7) (W32_get _ (t - 7) (by rw [SL.out]; omega))
        rw [← XC.out] at a1
        rw [← XD.out] at a2
        have a3 := row_free W1.out.bs t
        have a4 := row_cell W1.out.bs t (W32_get _ t (by rw [SL.out]; omega))
        clear hw1
        go_region
        clear a1 a2 a3 a4
        go_wp2_with fail
        go_roundw
        case rel =>
          refine ⟨t + 1, by omega, by go_num, ?_⟩
          rw [schedK, if_neg h16, nextL, ← XA.out, ← XB.out, ← XC.out, ← XD.out, ← hlo.out, ← hhi.out]
          have := (W1.out.set t (xc + lo + xd + hi)).keep (Below.refl _ _).drew
          rw [← u32_add, ← u32_add, ← u32_add] at this
          rw [show ((xc.toNat : Int) + (lo.toNat : Int) + (xd.toNat : Int) + (hi.toNat : Int)) % 4294967296 = ((((xc.toNat : Int) + (lo.toNat : Int)) % 4294967296 + (xd.toNat : Int)) % 4294967296 + (hi.toNat : Int)) % 4294967296 by omega]
          exact this
        case measure => simp [intOf]; omega
    · have ht64 : Hid (t = 64) := show t = 64 by omega
      have hD : decide ((t : Int) < 64) = false := by simp; omega
      have SL := Lib.hid (show (schedK b t).length = 64 from schedK_length b t)
      obtain ⟨l, hl⟩ : ∃ l, l = schedK b t := ⟨_, rfl⟩
      rw [← hl] at H2 SL
      have EL := Lib.hid hl
      clear hl
      have Z := Lib.hid (show (Try.prog.info? 58).map (·.size) = some (W32 l).size by rw [W32_size, SL.out]; kernel_rfl)
      clear hlt ht
      go_wp2_with (first
        | (refine wpList_load_row rfl 58 (.tmp 3) rfl (w.heap.size + 1) rfl 58 (W32 l) (0, 0) _ H2.out.bs Try.underlying58 rfl Z.out ?_)
        | (refine wpList_store_whole rfl rfl 58 (.tmp 2) (.tmp 79) rfl w.heap.size (W32 l) rfl rfl 58 _ H2.out.bz Z.out (by rw [W32_size, W32_size, SL.out]; simp) (W32_one _) ?_; intro w8 hz8 hg8 _))
      refine bodyPost_ret (results_cell_row rfl _ _ w.heap.size 58 (W32 l) (0, 0) _ rfl hz8 Try.underlying58 rfl Z.out) rfl ⟨?_, ?_⟩
      · rw [EL.out, ht64.out]
      · exact H2.out.bel.trans (grown_below hg8 (Nat.le_of_lt (row_lt H2.out.bz)) (by rintro g ⟨⟩; omega))
end Go.Proofs.Ytphpcegifdiofaa
