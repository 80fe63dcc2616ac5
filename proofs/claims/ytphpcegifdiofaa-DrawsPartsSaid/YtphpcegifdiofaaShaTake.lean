/- A block is taken in. -/
import Derived.Test.YtphpcegifdiofaaShaHB
import Derived.Test.YtphpcegifdiofaaGPlan
import Derived.Laws.CopyOwn
namespace Go.Proofs.Ytphpcegifdiofaa
set_option linter.unusedVariables false
set_option linter.unusedSimpArgs false
open Go.RowKit
attribute [local go_sem ↓] Go.wp_at_zero Go.wp_at_succ

theorem HB_range (made : Bool) (s : List UInt32) (rest : List UInt8) (n : Nat) (w : World) (g : Nat) (t : TypeId) (h : w.heap[g]? = some (.cells (HB made s rest n) t (0, 0))) : w.rangeAt g 1 (s.map fun x => Value.int .u32 (x.toNat : Int)) := by
  intro j v hj
  have hjl : j < s.length := by have := (List.getElem?_eq_some_iff.1 hj).1; simpa using this
  have h2 := HB_s made s rest n j hjl
  rw [List.getElem?_map, List.getElem?_eq_getElem hjl] at hj
  cases hj
  refine row_cell h (1 + j) ?_
  rw [h2]
  simp [List.getD_eq_getElem?_getD, hjl]
theorem HB_RdB (made : Bool) (s : List UInt32) (rest : List UInt8) (n : Nat) (hs : s.length = 8) (w : World) (g : Nat) (t : TypeId) (h : w.heap[g]? = some (.cells (HB made s rest n) t (0, 0))) : RdB w (some ⟨g, 9, none⟩) rest := fun j hj =>
  ⟨g, 9, rfl, row_cell h (9 + j) (HB_rest made s rest n hs j hj)⟩
theorem list8 : ∀ (v : List UInt32), v.length = 8 → v = [v.getD 0 0, v.getD 1 0, v.getD 2 0, v.getD 3 0, v.getD 4 0, v.getD 5 0, v.getD 6 0, v.getD 7 0]
  | [_, _, _, _, _, _, _, _], _ => rfl
theorem sumW_ex (x y : UInt32) : ∃ z : UInt32, Hid (z = x + y) ∧ IntKind.u32.wrap ((x.toNat : Int) + (y.toNat : Int)) = (z.toNat : Int) := ⟨_, rfl, by rw [IntKind.wrap_u32, u32_add]⟩
theorem xor3_ex (a b c : UInt32) : ∃ z : UInt32, Hid (z = a ^^^ b ^^^ c) ∧ bits .xor .u32 (bits .xor .u32 (a.toNat : Int) (b.toNat : Int)) (c.toNat : Int) = (z.toNat : Int) := ⟨_, rfl, by rw [u32_xor', u32_xor']⟩
/-- copy(dst, src) between places of rows that are known whole, at an operation: elements of one cell. -/
theorem copy_wp {P : Program} {o : Oper} {a : Act} {w : World} {K : Act → World → Prop} {Q : Exit → Act → World → Prop} (d s : Operand) (dT sT : TypeId) (ho : o.op = .call { callee := .builtin .copy, args := #[d, s], argTypes := #[dT, sT] }) (elem : TypeId) (hu : P.underlying dT = some (.slice elem)) (hsz : (P.info? elem).map (·.size) = some 1)
    (g off dLen dCap : Nat) (ad : Addr) (sLen sCap : Nat) (hd : a.eval d = .slice (some ⟨g, off, none⟩) dLen dCap) (hs : a.eval s = .slice (some ad) sLen sCap)
    (cur : Array Value) (t : TypeId) (hg : w.heap[g]? = some (.cells cur t (0, 0))) (cs : List Value) (hn : cs.length = Nat.min sLen dLen)
    (hsrc : ∀ j v, cs[j]? = some v → w.cell? (ad.add j) = some v) (hfit : off + cs.length ≤ cur.size) (h1 : ∀ v ∈ cs, v.oneCell' = true)
    (h : K (a.put o.dst (goInt cs.length)) (w.setRow g (cur.toList.take off ++ cs ++ cur.toList.drop (off + cs.length)).toArray)) : o.wp P a w K Q := by
  have hrun := run_copy_row (P := P) w dT sT o.type elem g off dLen dCap ad sLen sCap cur t cs hu hsz hg hn hsrc hfit h1
  unfold Oper.wp execOp
  simp only [ho, resolve, invoke, builtin, Sem.run_bind, Sem.run_pure, Result.andThen_ok, List.map_toArray, List.map_cons, List.map_nil, hd, hs, hrun]
  exact h
theorem shift8 (v0 v1 v2 v3 v4 v5 v6 v7 : UInt32) : ((W32 [v0, v1, v2, v3, v4, v5, v6, v7]).toList.take 1 ++ ([v0, v1, v2, v3, v4, v5, v6].map fun x => Value.int .u32 (x.toNat : Int)) ++ (W32 [v0, v1, v2, v3, v4, v5, v6, v7]).toList.drop (1 + ([v0, v1, v2, v3, v4, v5, v6].map fun x => Value.int .u32 (x.toNat : Int)).length)).toArray = W32 [v0, v0, v1, v2, v3, v4, v5, v6] := by simp [W32]
def zero64L : List UInt32 := List.replicate 64 0
def zero8L : List UInt32 := List.replicate 8 0
/-- What is known while a block is taken in. -/
structure TkW (w : World) (g : Nat) (made : Bool) (s : List UInt32) (rest : List UInt8) (n : Nat) (A : Nat) (v : List UInt32) (W : World) : Prop where
  hb : W.heap[g]? = some (.cells (HB made s rest n) 70 (0, 0))
  bw : W.heap[A]? = some (.cells (W32 (schedK rest 64)) 58 (0, 0))
  bk : W.heap[A + 1]? = some (.cells (W32 constL) 58 (0, 0))
  bv : W.heap[A + 2]? = some (.cells (W32 v) 66 (0, 0))
  gr : w.grownBy W (some g)
theorem TkW.step {w W W' : World} {g A : Nat} {made : Bool} {s v v' : List UInt32} {rest : List UInt8} {n : Nat} (h : TkW w g made s rest n A v W) (hgr : W.grownBy W' (some (A + 2))) (GA : g < A) (WA : w.heap.size ≤ A) (hv : W'.heap[A + 2]? = some (.cells (W32 v') 66 (0, 0))) : TkW w g made s rest n A v' W' where
  hb := grown_block hgr (by simp; omega) h.hb
  bw := grown_block hgr (by simp) h.bw
  bk := grown_block hgr (by simp) h.bk
  bv := hv
  gr := ⟨hgr.os.trans h.gr.os, hgr.tape.trans h.gr.tape, hgr.output.trans h.gr.output, Nat.le_trans h.gr.size hgr.size, fun k hk hne => (hgr.block k (Nat.lt_of_lt_of_le hk h.gr.size) (by simp; omega)).trans (h.gr.block k hk hne)⟩
set_option maxRecDepth 100000 in
set_option maxHeartbeats 4000000 in
theorem take_any (g : Nat) (made : Bool) (s : List UInt32) (rest : List UInt8) (n : Nat) (hs : s.length = 8) (hr : rest.length = 64) (w : World) (h : w.heap[g]? = some (.cells (HB made s rest n) 70 (0, 0))) :
    Calls Try.prog 32 #[.pointer (some ⟨g, 1, none⟩), .pointer (some ⟨g, 9, none⟩)] w fun e w' => e = .returned (.tuple #[]) ∧ w'.heap[g]? = some (.cells (HB made (takeL s rest) rest n) 70 (0, 0)) ∧ w.grownBy w' (some g) := by
  have HS := Lib.hid hs
  have HR := Lib.hid hr
  have H := Lib.hid h
  have LS := Lib.hid (schedK_length rest 64)
  have ZW := Lib.hid (show (Try.prog.info? 58).map (·.size) = some (W32 (schedK rest 64)).size by rw [W32_size, LS.out]; kernel_rfl)
  have ZC := Lib.hid (show (Try.prog.info? 58).map (·.size) = some (W32 constL).size by kernel_rfl)
  have ZS := Lib.hid (show (Try.prog.info? 66).map (·.size) = some (s.map fun x => Value.int .u32 (x.toNat : Int)).length by rw [List.length_map, HS.out]; kernel_rfl)
  have ZS2 := Lib.hid (show (Try.prog.info? 66).map (·.size) = some (W32 s).size by rw [W32_size, HS.out]; kernel_rfl)
  clear hs hr h
  go_enter Try.func32, Try.ntmps32
  go_wp2_with fail
  refine (schedule_any rest HR.out w g 9 (HB_RdB made s rest n HS.out w g _ H.out) (row_lt H.out)).mono ?_
  rintro e w1 ⟨rfl, hb1⟩
  obtain ⟨sw, hsw⟩ : ∃ sw, sw = schedK rest 64 := ⟨_, rfl⟩
  rw [← hsw] at LS ZW ⊢
  have SW := Lib.hid hsw
  clear hsw
  have B1 := Lib.hid hb1
  clear hb1
  go_wp2_with fail
  refine (constants_any w1).mono ?_
  rintro e w2 ⟨rfl, hb2⟩
  obtain ⟨kc, hkc⟩ : ∃ kc, kc = constL := ⟨_, rfl⟩
  rw [← hkc] at ZC ⊢
  have KC := Lib.hid hkc
  have LK := Lib.hid (show kc.length = 64 by rw [hkc]; rfl)
  have B2 := Lib.hid (B1.out.trans (hb2.mono B1.out.size))
  clear hkc hb2 B1
  obtain ⟨A, hA⟩ : ∃ A, A = w2.heap.size := ⟨_, rfl⟩
  have GA := Lib.hid (show g < A by have := row_lt H.out; have := B2.out.size; omega)
  have WA := Lib.hid (show w.heap.size ≤ A by have := B2.out.size; omega)
  have G2 := Lib.hid (below_block B2.out (row_lt H.out) H.out)
  go_upto_region 1 with (first
    | (refine wpList_store_whole rfl rfl 58 (.tmp 4) (.tmp 16) rfl w2.heap.size (W32 sw) rfl rfl 58 (W32 zero64L) (ha_old _ _ _ (by simp) (ha_new _ _ _ rfl)) ZW.out (by rw [W32_size, W32_size, LS.out]; rfl) (W32_one _) ?_; intro w3 hg3 hgr3 hs3)
    | (refine wpList_store_whole rfl rfl 58 (.tmp 5) (.tmp 17) rfl (w2.heap.size + 1) (W32 kc) rfl rfl 58 (W32 zero64L) (grown_block hgr3 (by simp) (ha_new _ _ _ (by simp))) ZC.out (by rw [W32_size, W32_size, LK.out]; rfl) (W32_one _) ?_; intro w4 hg4 hgr4 hs4))
  have F0 := Lib.hid (grown_block hgr4 (by simp) hg3)
  have F1 := Lib.hid hg4
  have S4 := Lib.hid (show w4.heap.size = A + 2 by rw [hs4, hs3, ha_size, ha_size, hA])
  have G4 := Lib.hid (show Below w.heap.size w w4 from
    ((B2.out.alloc B2.out.size _).alloc (by have := B2.out.size; simp; omega) _).trans ((grown_below hgr3 (by have := B2.out.size; simp; omega) (fun k e => by have := B2.out.size; cases e; omega)).trans (grown_below hgr4 (by rw [hs3]; have := B2.out.size; simp; omega) (fun k e => by have := B2.out.size; cases e; omega))))
  rw [← hA] at F0 F1 ⊢
  have H4 := Lib.hid (below_block G4.out (row_lt H.out) H.out)
  clear hg3 hgr3 hs3 hg4 hgr4 hs4 hA w3 B2 G2
  go_upto_region 2 with (first
    | (refine wpList_load_mid rfl 66 (.tmp 19) rfl g 1 rfl (s.map fun x => Value.int .u32 (x.toNat : Int)) _ (HB_range made s rest n w4 g _ H4.out) Try.underlying66 rfl ZS.out ?_)
    | (refine wpList_store_new rfl rfl 66 (.tmp 6) (.tmp 20) rfl (W32 s) rfl rfl ZS2.out (by rw [W32_size, HS.out]; rfl) (W32_one _) ?_))
  have T5 := Lib.hid (show TkW w g made s rest n A s (w4.alloc (.cells (W32 s) 66)) from
    ⟨ha_old _ _ _ (row_lt H4.out) H4.out, by rw [← SW.out]; exact ha_old _ _ _ (row_lt F0.out) F0.out, by rw [← KC.out]; exact ha_old _ _ _ (row_lt F1.out) F1.out, ha_new _ _ _ S4.out.symm,
      by have h1 := G4.out.alloc G4.out.size (.cells (W32 s) 66); exact ⟨h1.os, h1.tape, h1.output, h1.size, fun k hk _ => h1.block k hk⟩⟩)
  rw [S4.out]
  obtain ⟨w5, hw5⟩ : ∃ w5, w5 = w4.alloc (.cells (W32 s) 66) := ⟨_, rfl⟩
  rw [← hw5] at T5 ⊢
  clear hw5 H4 G4 S4 F0 F1 w4
  go_wp2_with fail
  go_loopw [21] (fun i wr => ∃ t : Nat, t ≤ 64 ∧ i = .int .i64 (t : Int) ∧ TkW w g made s rest n A (roundsL constL (schedK rest 64) s t) wr) (fun i _ => 64 - (intOf i).toNat)
  case atStart => exact ⟨0, by omega, rfl, T5.out⟩
  case round =>
    obtain ⟨t, ht, rfl, h6⟩ := hrel
    have T6 := Lib.hid h6
    clear h6 T5 w5
    by_cases hlt : t < 64
    · have hD : decide ((t : Int) < 64) = true := by simp; omega
      obtain ⟨v, hv⟩ : ∃ v, v = roundsL constL (schedK rest 64) s t := ⟨_, rfl⟩
      rw [← hv] at T6
      have VE := Lib.hid hv
      have VL := Lib.hid (show v.length = 8 by rw [hv]; exact roundsL_length _ _ _ HS.out _)
      clear hv
      obtain ⟨v0, d0⟩ : ∃ x, x = v.getD 0 0 := ⟨_, rfl⟩
      obtain ⟨v1, d1⟩ : ∃ x, x = v.getD 1 0 := ⟨_, rfl⟩
      obtain ⟨v2, d2⟩ : ∃ x, x = v.getD 2 0 := ⟨_, rfl⟩
      obtain ⟨v3, d3⟩ : ∃ x, x = v.getD 3 0 := ⟨_, rfl⟩
      obtain ⟨v4, d4⟩ : ∃ x, x = v.getD 4 0 := ⟨_, rfl⟩
      obtain ⟨v5, d5⟩ : ∃ x, x = v.getD 5 0 := ⟨_, rfl⟩
      obtain ⟨v6, d6⟩ : ∃ x, x = v.getD 6 0 := ⟨_, rfl⟩
      obtain ⟨v7, d7⟩ : ∃ x, x = v.getD 7 0 := ⟨_, rfl⟩
      have V : Hid (v = [v0, v1, v2, v3, v4, v5, v6, v7]) := by
        show v = _
        rw [d0, d1, d2, d3, d4, d5, d6, d7]
        exact list8 v VL.out
      have a0 := row_cell T6.out.bv 0 (W32_get v 0 (by rw [VL.out]; omega))
      have a4 := row_cell T6.out.bv 4 (W32_get v 4 (by rw [VL.out]; omega))
      rw [← d0] at a0
      rw [← d4] at a4
      have D0 := Lib.hid d0
      have D1 := Lib.hid d1
      have D2 := Lib.hid d2
      have D3 := Lib.hid d3
      have D4 := Lib.hid d4
      have D5 := Lib.hid d5
      have D6 := Lib.hid d6
      have D7 := Lib.hid d7
      clear d0 d1 d2 d3 d4 d5 d6 d7
      go_wp2_with fail
      go_region
      obtain ⟨w6, hw6⟩ : ∃ w6, w6 = wr.drew := ⟨_, rfl⟩
      have T7 := Lib.hid (show TkW w g made s rest n A v w6 by rw [hw6]; exact ⟨T6.out.hb, T6.out.bw, T6.out.bk, T6.out.bv, grown_drew T6.out.gr⟩)
      rw [← hw6]
      clear hw6 a0 a4 T6 wr
      have a1 := row_cell T7.out.bv 1 (W32_get v 1 (by rw [VL.out]; omega))
      have a2 := row_cell T7.out.bv 2 (W32_get v 2 (by rw [VL.out]; omega))
      have a5 := row_cell T7.out.bv 5 (W32_get v 5 (by rw [VL.out]; omega))
      have a6 := row_cell T7.out.bv 6 (W32_get v 6 (by rw [VL.out]; omega))
      rw [← D1.out] at a1
      rw [← D2.out] at a2
      rw [← D5.out] at a5
      rw [← D6.out] at a6
      obtain ⟨ch, hch, e1⟩ : ∃ z : UInt32, Hid (z = v6 ^^^ (v4 &&& (v5 ^^^ v6))) ∧ bits .xor .u32 (v6.toNat : Int) (bits .and .u32 (v4.toNat : Int) (bits .xor .u32 (v5.toNat : Int) (v6.toNat : Int))) = (z.toNat : Int) := ⟨_, rfl, by rw [u32_xor', u32_and', u32_xor']⟩
      obtain ⟨mj, hmj, e2⟩ : ∃ z : UInt32, Hid (z = (v0 &&& v1) ||| (v2 &&& (v0 ||| v1))) ∧ bits .or .u32 (bits .and .u32 (v0.toNat : Int) (v1.toNat : Int)) (bits .and .u32 (v2.toNat : Int) (bits .or .u32 (v0.toNat : Int) (v1.toNat : Int))) = (z.toNat : Int) := ⟨_, rfl, by rw [u32_or' v0 v1, u32_and', u32_and', u32_or']⟩
      go_wp2_with fail
      clear a1 a2 a5 a6 e1 e2
      have a7 := row_cell T7.out.bv 7 (W32_get v 7 (by rw [VL.out]; omega))
      rw [← D7.out] at a7
      obtain ⟨kt, hkt⟩ : ∃ x, x = constL.getD t 0 := ⟨_, rfl⟩
      obtain ⟨wt, hwt⟩ : ∃ x, x = (schedK rest 64).getD t 0 := ⟨_, rfl⟩
      have ak := row_cell T7.out.bk t (W32_get _ t (by rw [constL_length]; exact hlt))
      have aw := row_cell T7.out.bw t (W32_get _ t (by rw [schedK_length]; exact hlt))
      rw [← hkt] at ak
      rw [← hwt] at aw
      have KT := Lib.hid hkt
      have WT := Lib.hid hwt
      clear hkt hwt
      obtain ⟨z0, hz0, e0⟩ := xor3_ex (rotr v4 6) (rotr v4 11) (rotr v4 25)
      obtain ⟨z1, hz1, e1⟩ := sumW_ex v7 z0
      obtain ⟨z2, hz2, e2⟩ := sumW_ex z1 ch
      obtain ⟨z3, hz3, e3⟩ := sumW_ex z2 kt
      obtain ⟨x, hx, e4⟩ := sumW_ex z3 wt
      have b1 : (t : Int) < 64 := by omega
      go_still_tail 21, (by kernel_rfl)
      still_call (sturned_any _ 6 _ (by omega) (by omega) (by decide))
      repeat still_step
      still_call (sturned_any _ 11 _ (by omega) (by omega) (by decide))
      repeat still_step
      still_call (sturned_any _ 25 _ (by omega) (by omega) (by decide))
      repeat still_step
      refine wpStill_nil ?_
      change wpList _ _ _ _ _ w6.drew
      clear a7 ak aw e0 e1 e2 e3 e4
      obtain ⟨w7, hw7⟩ : ∃ w7, w7 = w6.drew := ⟨_, rfl⟩
      have T8 := Lib.hid (show TkW w g made s rest n A v w7 by rw [hw7]; exact ⟨T7.out.hb, T7.out.bw, T7.out.bk, T7.out.bv, grown_drew T7.out.gr⟩)
      rw [← hw7]
      clear hw7 T7 w6
      obtain ⟨y0, hy0, e0⟩ := xor3_ex (rotr v0 2) (rotr v0 13) (rotr v0 22)
      obtain ⟨y, hy, e1⟩ : ∃ z : UInt32, Hid (z = y0 + mj) ∧ ((y0.toNat : Int) + (mj.toNat : Int)) % 4294967296 = (z.toNat : Int) := ⟨_, rfl, u32_add _ _⟩
      have E0 := Lib.hid e0
      have E1 := Lib.hid e1
      clear e0 e1
      go_wp2_with fail
      refine (sturned_any v0 2 _ (by omega) (by omega) (by decide)).mono ?_
      rintro e w' ⟨rfl, rfl⟩
      go_wp2_with fail
      refine (sturned_any v0 13 _ (by omega) (by omega) (by decide)).mono ?_
      rintro e w' ⟨rfl, rfl⟩
      go_wp2_with fail
      refine (sturned_any v0 22 _ (by omega) (by omega) (by decide)).mono ?_
      rintro e w' ⟨rfl, rfl⟩
      have e0 := E0.out
      have e1 := E1.out
      go_wp2_with fail
      rw [E1.out]
      clear e0 e1 E0 E1
      obtain ⟨j0, hj0, hj1, hj2, _⟩ := info_parts (show (Try.prog.info? 51).map (fun i => (i.zero, i.size, i.bytes)) = some (some (.int .u32 0), 1, 4) by kernel_rfl)
      have J0 := Lib.hid hj0
      have J2 := Lib.hid hj2
      clear hj0 hj1 hj2
      refine wp_region_plan (fun _ => True) [0, 1] [2] (by kernel_rfl) (by kernel_rfl) (fun _ _ d _ _ h => by cases d <;> exact h) (trivial) ?_
      simp only [List.filterMap_cons, List.filterMap_nil, List.getElem?_toArray, List.getElem?_cons_zero, List.getElem?_cons_succ]
      refine planQ_cons (by rfl) (fun W hW => run_ptr_from 66 (.tmp 6) (.const (.int .i64 1)) rfl 8 51 Try.underlying66 J0.out J2.out .i64 (A + 2) 0 1 (by omega) rfl rfl W) ?_
      simp only [Act.put, List.setIfInBounds_toArray, List.set_cons_zero, List.set_cons_succ]
      refine planQ_cons (by rfl) (fun W hW => run_arr_to 66 (.tmp 6) (.const (.int .i64 7)) rfl 8 51 Try.underlying66 J0.out (A + 2) 7 (by omega) rfl rfl W) ?_
      simp only [Act.put, List.setIfInBounds_toArray, List.set_cons_zero, List.set_cons_succ]
      refine planQ_nil ?_
      refine planT_cons (by rfl) (fun K hK => ?_)
      have BV : Hid (w'.drew.heap[A + 2]? = some (.cells (W32 [v0, v1, v2, v3, v4, v5, v6, v7]) 66 (0, 0))) := by
        have := T8.out.bv
        rw [V.out] at this
        exact this
      refine copy_wp (.tmp 81) (.tmp 82) _ _ rfl 51 Try.underlying60 (by kernel_rfl) (A + 2) 1 7 7 ⟨A + 2, 0, none⟩ 7 8 rfl rfl _ _ BV.out ([v0, v1, v2, v3, v4, v5, v6].map fun x => Value.int .u32 (x.toNat : Int)) rfl ?cp1 (by simp [W32]) ?cp2 ?_
      case cp1 =>
        intro j u hj
        rw [add_at, Nat.zero_add]
        refine row_cell BV.out j ?_
        simp only [W32]
        rcases j with _ | _ | _ | _ | _ | _ | _ | j <;> simp at hj ⊢ <;> exact hj
      case cp2 =>
        intro u hu
        simp only [List.mem_map] at hu
        obtain ⟨q, _, rfl⟩ := hu
        rfl
      rw [shift8]
      refine hK.out _ _ (trivial) ?_
      clear hK K
      simp only [Act.put]
      refine planT_nil ?_
      have T9 := Lib.hid (show TkW w g made s rest n A [v0, v0, v1, v2, v3, v4, v5, v6] (w'.drew.setRow (A + 2) (W32 [v0, v0, v1, v2, v3, v4, v5, v6])) from by
        have hgr : w'.drew.grownBy (w'.drew.setRow (A + 2) (W32 [v0, v0, v1, v2, v3, v4, v5, v6])) (some (A + 2)) := ⟨rfl, rfl, rfl, by simp, fun k hk hne => setRow_other _ _ k _ (fun e => hne (by rw [e]))⟩
        have T8d : TkW w g made s rest n A v w'.drew := ⟨T8.out.hb, T8.out.bw, T8.out.bk, T8.out.bv, grown_drew T8.out.gr⟩
        exact T8d.step hgr GA.out WA.out (setRow_heap _ _ _ _ _ _ BV.out))
      obtain ⟨w8, hw8⟩ : ∃ w8, w8 = w'.drew.setRow (A + 2) (W32 [v0, v0, v1, v2, v3, v4, v5, v6]) := ⟨_, rfl⟩
      rw [← hw8] at T9 ⊢
      clear hw8 BV T8
      have a4 := row_cell T9.out.bv 4 (W32_get _ 4 (by simp))
      have f4 := row_free T9.out.bv 4
      change w8.cell? ⟨A + 2, 4, none⟩ = some (.int .u32 (v3.toNat : Int)) at a4
      go_upto_region 12 with fail
      clear a4 f4
      rw [u32_add]
      obtain ⟨w9, hw9⟩ : ∃ w9, w9 = w8.setCell ⟨A + 2, 4, none⟩ (.int .u32 ((v3 + x).toNat : Int)) := ⟨_, rfl⟩
      have T10 := Lib.hid (show TkW w g made s rest n A [v0, v0, v1, v2, v3 + x, v4, v5, v6] w9 from by
        rw [hw9]
        exact T9.out.step (grown_set (World.grownBy.refl _ _) _ _) GA.out WA.out (by rw [heap_setCell_same _ _ _ _ _ _ T9.out.bv, W32_set]; rfl))
      rw [← hw9]
      clear hw9 T9 w8
      have a0 := row_cell T10.out.bv 0 (W32_get _ 0 (by simp))
      have f0 := row_free T10.out.bv 0
      go_wp2_with fail
      clear a0 f0
      rw [u32_add]
      have T11 := Lib.hid (show TkW w g made s rest n A [x + y, v0, v1, v2, v3 + x, v4, v5, v6] (w9.setCell ⟨A + 2, 0, none⟩ (.int .u32 ((x + y).toNat : Int))) from
        T10.out.step (grown_set (World.grownBy.refl _ _) _ _) GA.out WA.out (by rw [heap_setCell_same _ _ _ _ _ _ T10.out.bv, W32_set]; rfl))
      go_roundw
      case rel =>
        refine ⟨t + 1, by omega, by go_num, ?_⟩
        have hxL : xL kt wt v = x := by
          unfold xL chL
          rw [← D4.out, ← D5.out, ← D6.out, ← D7.out, ← hch.out, ← hz0.out, ← hz1.out, ← hz2.out, ← hz3.out, ← hx.out]
        have hyL : yL v = y := by
          unfold yL mjL
          rw [← D0.out, ← D1.out, ← D2.out, ← hmj.out, ← hy0.out, ← hy.out]
        rw [roundsL, ← VE.out, ← KT.out, ← WT.out, roundL, hxL, hyL, ← D0.out, ← D1.out, ← D2.out, ← D3.out, ← D4.out, ← D5.out, ← D6.out]
        exact T11.out
      case measure => simp [intOf]; omega
    · have ht64 : Hid (t = 64) := show t = 64 by omega
      have hD : decide ((t : Int) < 64) = false := by simp; omega
      obtain ⟨v, hv⟩ : ∃ v, v = roundsL constL (schedK rest 64) s t := ⟨_, rfl⟩
      rw [← hv] at T6
      have VE := Lib.hid hv
      have VL := Lib.hid (show v.length = 8 by rw [hv]; exact roundsL_length _ _ _ HS.out _)
      clear hv
      go_wp2_with fail
      go_loopw [94] (fun i wr => ∃ j : Nat, j ≤ 8 ∧ i = .int .i64 (j : Int) ∧ TkW w g made (sumK s v j) rest n A v wr) (fun i _ => 8 - (intOf i).toNat)
      case atStart => exact ⟨0, by omega, rfl, T6.out⟩
      case round =>
        clear hD hlt ht
        obtain ⟨j, hj, rfl, h8⟩ := hrel
        have T8 := Lib.hid h8
        clear h8 T6
        have SL := Lib.hid (show (sumK s v j).length = 8 by rw [sumK_length]; exact HS.out)
        by_cases hlt : j < 8
        · have hD : decide ((j : Int) < 8) = true := by simp; omega
          have a1 := row_cell T8.out.hb (1 + j) (HB_s made _ rest n j (by rw [SL.out]; exact hlt))
          have f1 := row_free T8.out.hb (1 + j)
          have a2 := row_cell T8.out.bv j (W32_get _ j (by rw [VL.out]; exact hlt))
          obtain ⟨x, hx⟩ : ∃ x, x = (sumK s v j).getD j 0 := ⟨_, rfl⟩
          obtain ⟨y, hy⟩ : ∃ x, x = v.getD j 0 := ⟨_, rfl⟩
          rw [← hx] at a1
          rw [← hy] at a2
          have X := Lib.hid hx
          have Y := Lib.hid hy
          clear hx hy
          go_wp2_with fail
          go_region
          clear a1 a2 f1
          go_wp2_with fail
          rw [u32_add]
          have T9 := Lib.hid (show TkW w g made (sumK s v (j + 1)) rest n A v (wr.setCell ⟨g, 1 + j, none⟩ (.int .u32 ((x + y).toNat : Int))).drew from by
            have hgr : wr.grownBy (wr.setCell ⟨g, 1 + j, none⟩ (.int .u32 ((x + y).toNat : Int))).drew (some g) := grown_drew (grown_set (World.grownBy.refl _ _) _ _)
            have := GA.out
            refine ⟨?_, grown_block hgr (by simp; omega) T8.out.bw, grown_block hgr (by simp; omega) T8.out.bk, grown_block hgr (by simp; omega) T8.out.bv, World.grownBy.trans T8.out.gr hgr⟩
            show (wr.setCell ⟨g, 1 + j, none⟩ (.int .u32 ((x + y).toNat : Int))).heap[g]? = _
            rw [heap_setCell_same _ _ _ _ _ _ T8.out.hb, HB_set_s made _ rest n j (by rw [SL.out]; exact hlt), sumK, ← X.out, ← Y.out])
          go_roundw
          case rel => exact ⟨j + 1, by omega, by go_num, T9.out⟩
          case measure => simp [intOf]; omega
        · have hj8 : Hid (j = 8) := show j = 8 by omega
          have hD : decide ((j : Int) < 8) = false := by simp; omega
          go_wp2_with fail
          go_end0
          refine ⟨rfl, ?_, T8.out.gr⟩
          have := T8.out.hb
          rw [hj8.out, VE.out, ht64.out] at this
          exact this
end Go.Proofs.Ytphpcegifdiofaa
