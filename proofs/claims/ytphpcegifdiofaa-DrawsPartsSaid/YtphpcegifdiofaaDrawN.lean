/- draws.Source: behind. No condition but those each theorem states. -/
import Derived.Test.YtphpcegifdiofaaDrawB
namespace Go.Proofs.Ytphpcegifdiofaa
set_option linter.unusedVariables false
set_option linter.unusedSimpArgs false
open Go.RowKit
attribute [local go_sem ↓] Go.wp_at_zero Go.wp_at_succ

def plV (u bk : Nat) (held : Bool) : Value := .agg #[.int .i64 (u : Int), .int .i64 (bk : Int), .bool held]
theorem run_neq_place {o : Oper} {a : Act} (x y : Operand) (ho : o.op = .binOp .neq 38 x y 38) (u bk n : Nat) (held : Bool) (hx : a.eval x = plV u bk held) (hy : a.eval y = plV u n true) (W : World) :
    (execOp a.eval o).run Try.prog W = .ok (.value (.bool (!(decide (bk = n) && held)))) W := by
  unfold execOp plV at *
  simp only [ho, hx, hy, Sem.run_bind, Sem.run_pure]
  have h1 : ((bk : Int) == (n : Int)) = decide (bk = n) := by rw [Bool.eq_iff_iff]; simp; omega
  cases held <;> by_cases e : bk = n
  all_goals go_simp
theorem run_load_place {o : Oper} {a : Act} (x : Operand) (ho : o.op = .load 38 x) (b off : Nat) (hx : a.eval x = .pointer (some ⟨b, off, none⟩)) (u bk : Nat) (held : Bool) {W : World}
    (h0 : W.cell? ⟨b, off, none⟩ = some (.int .i64 (u : Int))) (h1 : W.cell? ⟨b, off + 1, none⟩ = some (.int .i64 (bk : Int))) (h2 : W.cell? ⟨b, off + 2, none⟩ = some (.bool held)) :
    (execOp a.eval o).run Try.prog W = .ok (.value (plV u bk held)) W := by
  have hr : W.rangeAt b off [.int .i64 (u : Int), .int .i64 (bk : Int), .bool held] := by
    intro j v hj
    match j, hj with
    | 0, hj => simp at hj; subst hj; exact h0
    | 1, hj => simp at hj; subst hj; exact h1
    | 2, hj => simp at hj; subst hj; exact h2
  unfold execOp
  simp only [ho, hx, Instr.loadAt, Instr.sureAddr, Sem.run_bind, Sem.run_pure, Result.andThen_ok, run_loadVar_mid W b off _ _ _ hr Try.underlying38 rfl (show (Try.prog.info? 38).map (·.size) = some 3 by kernel_rfl)]
  rfl
theorem same_false (bk n : Nat) (held : Bool) (h : ¬ (bk = n ∧ held = true)) : (!(decide (bk = n) && held)) = true := by
  cases held
  · simp
  · have : ¬ bk = n := fun e => h ⟨e, rfl⟩
    simp [this]
theorem same_true (bk n : Nat) (held : Bool) (h1 : bk = n) (h2 : held = true) : (!(decide (bk = n) && held)) = false := by rw [h1, h2]; simp
/-- The block behind. -/
def blockS (F : List UInt8) (n : Nat) : List UInt8 := hashL (hashL F ++ beL 8 n)
set_option maxRecDepth 100000 in
set_option maxHeartbeats 4000000 in
theorem behind_any (g D : Nat) (F : List UInt8) (u : Nat) (w : World) (h : Src g D F u true w) (hb : F.length ≤ 100000) (hu : u ≤ 1000000) (i : Nat) (hi : i ≤ 1000000) :
    Calls Try.prog 21 #[.pointer (some ⟨g, 0, none⟩), .int .i64 (i : Int)] w fun e w' => e = .returned (.int .u8 (((blockS F (i / 32)).getD (i % 32) 0).toNat : Int)) ∧ Src g D F u true w' ∧ w.grownBy w' (some g) := by
  obtain ⟨A, c, seed, begun, bk, held, blk, h1, h2, h3, h4, hs, hk, h5, h6, h7⟩ := h.has
  obtain rfl : begun = true := h7 rfl
  have HF := Lib.hid (show F.length ≤ c from h2)
  have RA := Lib.hid h3
  have HA := Lib.hid h4
  have HS := Lib.hid hs
  have HK := Lib.hid hk
  have H5 := Lib.hid (h5 rfl)
  have H6 := Lib.hid (fun e => (h6 e).2)
  have GA := Lib.hid h1
  have ub : (u : Int) ≤ 1000000 := by omega
  obtain ⟨x, hx⟩ : ∃ x : UInt64, x.toNat = i / 32 := ⟨UInt64.ofNat (i / 32), by simp; omega⟩
  obtain ⟨n, hn⟩ : ∃ n, n = i / 32 := ⟨_, rfl⟩
  obtain ⟨r, hr⟩ : ∃ r, r = i % 32 := ⟨_, rfl⟩
  rw [← hn, ← hr]
  rw [← hn] at hx
  have XN := Lib.hid hx
  clear hx
  have e1 : (i : Int).tdiv 32 = (n : Int) := by rw [Int.tdiv_eq_ediv_of_nonneg (by omega)]; omega
  have e2 : (i : Int).tmod 32 = (r : Int) := by rw [Int.tmod_eq_emod_of_nonneg (by omega)]; omega
  have nb : (n : Int) ≤ 1000000 := by omega
  have rb : (r : Int) < 32 := by omega
  have ib : (i : Int) ≤ 1000000 := by omega
  obtain ⟨y, hy⟩ : ∃ y, y = (blockS F n).getD r 0 := ⟨_, rfl⟩
  rw [← hy]
  have Y := Lib.hid hy
  clear hy
  have R32 := Lib.hid (show r < 32 by omega)
  have c34 := row_cell h1 34 (SrcC_u hs)
  obtain ⟨fv, hfv⟩ : ∃ fv, fv = Value.slice A F.length c := ⟨_, rfl⟩
  rw [← hfv] at GA
  have FV := Lib.hid hfv
  clear hfv h h1 h2 h3 h4 hs hk h5 h6 h7 hn hr hi hu hb
  go_enter Try.func21, Try.ntmps21
  go_upto_region 3 with fail
  obtain ⟨E, hE⟩ : ∃ E, E = w.heap.size := ⟨_, rfl⟩
  generalize hw : World.alloc w _ = w1
  have hb1 : Below w.heap.size w w1 := by rw [← hw]; exact below_new _ _
  have GE := Lib.hid (show g < E by rw [hE]; exact row_lt GA.out)
  have S := Lib.hid (show w1.heap[g]? = some (.cells (SrcC fv seed true u bk held blk) 40 (0, 0)) ∧ w1.heap[E]? = some (.cells #[.int .i64 (u : Int), .int .i64 (n : Int), .bool true] 38 (0, 0)) from
    ⟨below_block hb1 (row_lt GA.out) GA.out, by rw [← hw]; exact ha_new _ _ _ hE⟩)
  have B1 := Lib.hid hb1
  rw [← hE]
  clear hw hb1 hE c34
  have SD := Lib.hid (show w1.drew.heap[g]? = some (.cells (SrcC fv seed true u bk held blk) 40 (0, 0)) ∧ w1.drew.heap[E]? = some (.cells #[.int .i64 (u : Int), .int .i64 (n : Int), .bool true] 38 (0, 0)) from S.out)
  refine wp_region_road (fun W => W.heap[g]? = some (.cells (SrcC fv seed true u bk held blk) 40 (0, 0)) ∧ W.heap[E]? = some (.cells #[.int .i64 (u : Int), .int .i64 (n : Int), .bool true] 38 (0, 0))) [(true, 0), (true, 1), (true, 2), (true, 3), (true, 4), (true, 5)] (by kernel_rfl) (by kernel_rfl) (fun _ _ d _ _ h => by cases d <;> exact h) ?_
  simp only [List.filterMap_cons, List.filterMap_nil, List.getElem?_toArray, List.getElem?_cons_zero, List.getElem?_cons_succ, Option.map_some]
  refine planG_q (v := ?_) (by rfl) (SD.out) ?_ ?_
  rotate_left
  · intro W hW
    go_simp
    with_reducible rfl
  simp only [Act.put, List.setIfInBounds_toArray, List.set_cons_zero, List.set_cons_succ]
  refine planG_q (v := ?_) (by rfl) (SD.out) ?_ ?_
  rotate_left
  · intro W hW
    go_simp
    with_reducible rfl
  simp only [Act.put, List.setIfInBounds_toArray, List.set_cons_zero, List.set_cons_succ]
  refine planG_q (v := ?_) (by rfl) (SD.out) ?_ ?_
  rotate_left
  · intro W hW
    go_simp
    with_reducible rfl
  simp only [Act.put, List.setIfInBounds_toArray, List.set_cons_zero, List.set_cons_succ]
  refine planG_q (by rfl) (SD.out) (fun W hW => run_load_place (.tmp 18) rfl g 34 rfl u bk held (row_cell hW.1 34 (SrcC_u HS.out)) (row_cell hW.1 35 (SrcC_bk HS.out)) (row_cell hW.1 36 (SrcC_held HS.out))) ?_
  simp only [Act.put, List.setIfInBounds_toArray, List.set_cons_zero, List.set_cons_succ]
  refine planG_q (by rfl) (SD.out) (fun W hW => run_load_place (.tmp 6) rfl E 0 rfl u n true (row_cell hW.2 0 rfl) (row_cell hW.2 1 rfl) (row_cell hW.2 2 rfl)) ?_
  simp only [Act.put, List.setIfInBounds_toArray, List.set_cons_zero, List.set_cons_succ]
  refine planG_q (by rfl) (SD.out) (fun W hW => run_neq_place (.tmp 19) (.tmp 20) rfl u bk n held rfl rfl W) ?_
  simp only [Act.put, List.setIfInBounds_toArray, List.set_cons_zero, List.set_cons_succ]
  refine planG_nil ?_
  have B1 := Lib.hid (B1.out.trans (Below.refl _ _).drew)
  generalize World.drew w1 = w2 at *
  have BN := Lib.hid (show (blockS F n).length = 32 from hashL_length _)
  have GR := Lib.hid (show w.grownBy w2 (some g) from (grown_of_below B1.out).mono_none)
  clear S
  go_upto_if 21 with fail
  go_cut [0] (fun v wx => v = .pointer (some ⟨g, 0, none⟩) ∧ wx.heap[g]? = some (.cells (SrcC fv seed true u n true (blockS F n)) 40 (0, 0)) ∧ w.grownBy wx (some g))
  case first =>
    by_cases hsame : bk = n ∧ held = true
    · obtain ⟨h1, h2⟩ := hsame
      have SE := Lib.hid (show w2.heap[g]? = some (.cells (SrcC fv seed true u n true (blockS F n)) 40 (0, 0)) by
        have h3 := H6.out h2
        rw [h1] at h3
        have h4 := SD.out.1
        rw [h1, h2, h3] at h4
        exact h4)
      have hB := same_true bk n held h1 h2
      clear h1 h2
      generalize (!(decide (bk = n) && held)) = B at hB ⊢
      subst hB
      go_wp2_with fail
      go_meet
      exact ⟨rfl, SE.out, GR.out⟩
    · have hB := same_false bk n held hsame
      generalize (!(decide (bk = n) && held)) = B at hB ⊢
      subst hB
      clear hsame
      go_upto_region 4 with fail
      have SD := Lib.hid (show w2.drew.heap[g]? = some (.cells (SrcC fv seed true u bk held blk) 40 (0, 0)) ∧ w2.drew.heap[E]? = some (.cells #[.int .i64 (u : Int), .int .i64 (n : Int), .bool true] 38 (0, 0)) from SD.out)
      have GR := Lib.hid (show w.grownBy w2.drew (some g) from World.grownBy.trans GR.out (grown_drew (World.grownBy.refl _ _)))
      generalize hw3 : World.drew w2 = w3 at SD GR
      refine wp_region_road (fun _ => True) [(true, 0), (true, 1), (true, 2), (true, 3), (true, 4), (true, 5), (true, 6), (false, 7), (false, 8), (false, 9), (true, 10), (true, 11), (false, 12)] (by kernel_rfl) (by kernel_rfl) (fun _ _ d _ _ h => by cases d <;> exact h) ?_
      simp only [List.filterMap_cons, List.filterMap_nil, List.getElem?_toArray, List.getElem?_cons_zero, List.getElem?_cons_succ, Option.map_some]
      rw [hw3]
      clear hw3
      have e5 : IntKind.u64.wrap (n : Int) = (n : Int) := by rw [IntKind.wrap_u64]; omega
      refine planG_q (v := ?_) (by rfl) (trivial) ?_ ?_
      rotate_left
      · intro W hW
        go_simp
        with_reducible rfl
      simp only [Act.put, List.setIfInBounds_toArray, List.set_cons_zero, List.set_cons_succ]
      refine planG_q (v := ?_) (by rfl) (trivial) ?_ ?_
      rotate_left
      · intro W hW
        go_simp
        with_reducible rfl
      simp only [Act.put, List.setIfInBounds_toArray, List.set_cons_zero, List.set_cons_succ]
      refine planG_q (v := ?_) (by rfl) (trivial) ?_ ?_
      rotate_left
      · intro W hW
        go_simp
        with_reducible rfl
      simp only [Act.put, List.setIfInBounds_toArray, List.set_cons_zero, List.set_cons_succ]
      refine planG_q (v := ?_) (by rfl) (trivial) ?_ ?_
      rotate_left
      · intro W hW
        go_simp
        with_reducible rfl
      simp only [Act.put, List.setIfInBounds_toArray, List.set_cons_zero, List.set_cons_succ]
      refine planG_q (v := ?_) (by rfl) (trivial) ?_ ?_
      rotate_left
      · intro W hW
        go_simp
        with_reducible rfl
      simp only [Act.put, List.setIfInBounds_toArray, List.set_cons_zero, List.set_cons_succ]
      refine planG_q (v := ?_) (by rfl) (trivial) ?_ ?_
      rotate_left
      · intro W hW
        go_simp
        with_reducible rfl
      simp only [Act.put, List.setIfInBounds_toArray, List.set_cons_zero, List.set_cons_succ]
      refine planG_q (v := ?_) (by rfl) (trivial) ?_ ?_
      rotate_left
      · intro W hW
        go_simp
        with_reducible rfl
      simp only [Act.put, List.setIfInBounds_toArray, List.set_cons_zero, List.set_cons_succ]
      clear e5
      refine planG_t (by rfl) (fun K hK => ?_)
      go_simp
      refine (show Calls _ _ _ _ _ by have P := put_any w3 none 0 0 [] x 8 (by omega) rfl (RdB.nil _ _) (by omega); rw [XN.out] at P; exact P).mono ?_
      rw [show [] ++ beL (putN 8) n = beL 8 n from rfl]
      rintro e w4 ⟨v, rfl, ho, hb⟩
      obtain ⟨Av, cv, rfl, hrv, hlv, _, _⟩ := ho.read
      rw [beL_length] at hlv ⊢
      have SD := Lib.hid (show w4.heap[g]? = some (.cells (SrcC fv seed true u bk held blk) 40 (0, 0)) ∧ w4.heap[E]? = some (.cells #[.int .i64 (u : Int), .int .i64 (n : Int), .bool true] 38 (0, 0)) from ⟨below_block hb (row_lt SD.out.1) SD.out.1, below_block hb (row_lt SD.out.2) SD.out.2⟩)
      have GR := Lib.hid (World.grownBy.trans GR.out (grown_of_below hb).mono_none)
      have RV := Lib.hid hrv
      have CV := Lib.hid hlv
      clear ho hb hrv hlv
      refine hK.out _ _ (trivial) ?_
      clear hK K
      refine planG_t (by rfl) (fun K hK => ?_)
      go_simp
      generalize hB : Array.size (World.heap w4) = NB
      generalize hw : World.alloc w4 _ = w5
      obtain ⟨hrow5, hb5⟩ := built_rows hw hB
      have SD := Lib.hid (show w5.heap[g]? = some (.cells (SrcC fv seed true u bk held blk) 40 (0, 0)) ∧ w5.heap[E]? = some (.cells #[.int .i64 (u : Int), .int .i64 (n : Int), .bool true] 38 (0, 0)) from ⟨below_block hb5 (row_lt SD.out.1) SD.out.1, below_block hb5 (row_lt SD.out.2) SD.out.2⟩)
      have GR := Lib.hid (World.grownBy.trans GR.out (grown_of_below hb5).mono_none)
      have RV := Lib.hid (RV.out.keep hb5)
      have RO := Lib.hid hrow5
      clear hw hB hrow5 hb5
      refine hK.out _ _ (trivial) ?_
      clear hK K
      refine planG_t (by rfl) (fun K hK => ?_)
      go_simp
      refine (of_any w5 (some ⟨NB, 0, none⟩) 2 2 [.slice (some ⟨g, 1, none⟩) 32 32, .slice Av 8 cv] [seed, beL 8 n] rfl RO.out (.cons ⟨some ⟨g, 1, none⟩, 32, by rw [HS.out], by rw [HS.out]; exact Nat.le_refl _, fun j hj => ⟨g, 1, rfl, row_cell SD.out.1 (1 + j) (SrcC_seed j hj)⟩⟩ (.cons ⟨Av, cv, by rw [beL_length], by rw [beL_length]; exact CV.out, RV.out⟩ .nil)) (by simp [HS.out, beL_length]) (by omega)).mono ?_
      obtain ⟨L, hL⟩ : ∃ L, L = hashL [seed, beL 8 n].flatten := ⟨_, rfl⟩
      rw [← hL]
      have LE := Lib.hid (show L = blockS F n by rw [hL, blockS, H5.out]; simp)
      have LL := Lib.hid (show L.length = 32 by rw [hL, hashL_length])
      have Z := Lib.hid (show (Try.prog.info? 29).map (·.size) = some (W8 L).size by rw [W8_size, LL.out]; kernel_rfl)
      rintro e w6 ⟨rfl, hb⟩
      have SD := Lib.hid (show w6.heap[g]? = some (.cells (SrcC fv seed true u bk held blk) 40 (0, 0)) ∧ w6.heap[E]? = some (.cells #[.int .i64 (u : Int), .int .i64 (n : Int), .bool true] 38 (0, 0)) from ⟨below_block hb (row_lt SD.out.1) SD.out.1, below_block hb (row_lt SD.out.2) SD.out.2⟩)
      have GR := Lib.hid (World.grownBy.trans GR.out (grown_of_below hb).mono_none)
      clear hL hb
      refine hK.out _ _ (trivial) ?_
      clear hK K
      refine planG_q (v := ?_) (by rfl) (trivial) ?_ ?_
      rotate_left
      · intro W hW
        go_simp
        with_reducible rfl
      simp only [Act.put, List.setIfInBounds_toArray, List.set_cons_zero, List.set_cons_succ]
      refine planG_q (v := ?_) (by rfl) (trivial) ?_ ?_
      rotate_left
      · intro W hW
        go_simp
        with_reducible rfl
      simp only [Act.put, List.setIfInBounds_toArray, List.set_cons_zero, List.set_cons_succ]
      refine planG_t (by rfl) (fun K hK => ?_)
      refine storeM_wp 29 (.tmp 33) (.tmp 31) rfl g 37 (W8 L) rfl rfl _ _ SD.out.1 Z.out (by rw [SrcC_size HS.out HK.out, W8_size, LL.out]; decide) (W8_one _) (fun w7 hr7 hg7 _ => ?_)
      rw [SrcC_put_blk HS.out HK.out _ LL.out] at hr7
      have R7 := Lib.hid hr7
      have E7 := Lib.hid (grown_block hg7 (by have := GE.out; simp; omega) SD.out.2)
      have GR := Lib.hid (World.grownBy.trans GR.out hg7)
      clear hr7 hg7
      refine hK.out _ _ (trivial) ?_
      clear hK K
      refine planG_nil ?_
      have Z3 := Lib.hid (show (Try.prog.info? 38).map (·.size) = some 3 by kernel_rfl)
      have S3 := Lib.hid (show 34 + (#[.int .i64 (u : Int), .int .i64 (n : Int), .bool true] : Array Value).size ≤ (SrcC fv seed true u bk held L).size by rw [SrcC_size HS.out LL.out]; simp)
      have O3 := Lib.hid (show (#[.int .i64 (u : Int), .int .i64 (n : Int), .bool true] : Array Value).all (·.oneCell') = true by simp [Value.oneCell'])
      go_wp2_with (first
        | (refine wpList_val rfl (show (execOp _ _).run _ _ = .ok (.value (.agg #[.int .i64 (u : Int), .int .i64 (n : Int), .bool true])) _ from run_load_place (.tmp 6) rfl E 0 rfl u n true (row_cell E7.out 0 rfl) (row_cell E7.out 1 rfl) (row_cell E7.out 2 rfl)) ?_)
        | (refine storeM_list rfl 38 (.tmp 37) (.tmp 35) rfl g 34 #[.int .i64 (u : Int), .int .i64 (n : Int), .bool true] rfl rfl _ _ R7.out Z3.out S3.out O3.out ?_; intro w8 hr8 hg8 _))
      go_meet
      refine ⟨rfl, ?_, World.grownBy.trans GR.out hg8⟩
      rw [hr8, ← LE.out]
      exact congrArg (fun z => some (Obj.cells z 40 (0, 0))) (SrcC_put_at HS.out u n true)
  case rest =>
  obtain ⟨rfl, hrow, hgr⟩ := hcut
  have c := row_cell hrow (37 + r) (SrcC_blk HS.out r (by rw [BN.out]; exact R32.out))
  have ROW := Lib.hid hrow
  have HG := Lib.hid hgr
  clear hrow hgr
  rw [← Y.out] at c
  go_wp2_with fail
  go_ret
  refine ⟨rfl, ⟨A, _, seed, true, n, true, blockS F n, by rw [ROW.out, FV.out], HF.out, RA.out.grown HG.out (fun k e a ea => by cases e; exact (HA.out a ea).1), fun a ea => ⟨(HA.out a ea).1, Nat.lt_of_lt_of_le (HA.out a ea).2.1 HG.out.size, (HA.out a ea).2.2⟩, HS.out, BN.out, fun _ => H5.out, fun _ => ⟨rfl, rfl⟩, fun _ => rfl⟩, HG.out⟩
end Go.Proofs.Ytphpcegifdiofaa
