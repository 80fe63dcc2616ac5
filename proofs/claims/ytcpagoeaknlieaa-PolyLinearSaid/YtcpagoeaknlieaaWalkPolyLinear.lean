/- The law PolyLinear, walked. -/
import Derived.Test.YtcpagoeaknlieaaWalkPolyShifts
import Derived.Test.YtcpagoeaknlieaaPolyE
import Derived.Test.YtcpagoeaknlieaaGrpB
namespace Go.Proofs.Ytcpagoeaknlieaa
set_option linter.unusedVariables false
set_option linter.unusedSimpArgs false
open Go.RowKit
attribute [local go_sem ↓] Go.wp_at_zero Go.wp_at_succ

def oneH32 : List UInt8 := [1, 0, 0, 0, 0, 0, 0, 0, 0, 0, 0, 0, 0, 0, 0, 0, 0, 0, 0, 0, 0, 0, 0, 0, 0, 0, 0, 0, 0, 0, 0, 0]
theorem Bls.put {w W : World} {bs : List (TypeId × Nat × List UInt8)} {t : TypeId} {g : Nat} {l : List UInt8} (h : Bls w bs W) (hz : W.heap[g]? = some (.cells (W8 l) t (0, 0))) (hlt : ∀ x ∈ bs, x.2.1 < g) (h0 : w.heap.size ≤ g) : Bls w ((t, g, l) :: bs) W :=
  ⟨fun x hx => by rcases List.mem_cons.1 hx with rfl | hx; exact hz; exact h.has x hx, fun x hx => by rcases List.mem_cons.1 hx with rfl | hx; exact h0; exact h.hg x hx, List.pairwise_cons.2 ⟨hlt, h.srt⟩, h.bel⟩
theorem Bls.own {w W W' : World} {bs : List (TypeId × Nat × List UInt8)} {r : Option Nat} (h : Bls w bs W) (hgr : W.grownBy W' r) (hne : ∀ g, r = some g → w.heap.size ≤ g ∧ ∀ x ∈ bs, x.2.1 ≠ g) : Bls w bs W' :=
  ⟨fun x hx => grown_block hgr (by intro e; exact (hne _ e.symm).2 x hx rfl) (h.has x hx), h.hg, h.srt, h.bel.trans (grown_below hgr h.bel.size (fun g e => (hne g e).1))⟩
theorem sum4_ex (c : Nat) (x y u : UInt8) (hc : c ≤ 2) : ∃ z : Nat, Hid (z = c + x.toNat + y.toNat + u.toNat) ∧ IntKind.i64.wrap (IntKind.i64.wrap (IntKind.i64.wrap ((c : Int) + IntKind.i64.wrap (x.toNat : Int)) + IntKind.i64.wrap (y.toNat : Int)) + IntKind.i64.wrap (u.toNat : Int)) = (z : Int) := by
  have := x.toNat_lt
  have := y.toNat_lt
  have := u.toNat_lt
  refine ⟨_, rfl, ?_⟩
  simp only [IntKind.wrap_i64]
  omega
theorem run_move {P : Program} {o : Oper} {a : Act} (x : Operand) (ho : o.op = .move x) {v : Value} (hx : a.eval x = v) (W : World) : (execOp a.eval o).run P W = .ok (.value v) W := by
  unfold execOp
  simp only [ho, hx, Sem.run_pure, Sem.run_bind, Result.andThen_ok]
theorem run_eq_arr_no {P : Program} {o : Oper} {a : Act} (t t2 : TypeId) (x y : Operand) (ho : o.op = .binOp .eql t x y t2) (e : TypeId) (n : Nat) (ht : P.underlying t = some (.array n e)) (he : P.underlying e = some (.int .u8)) (hc : (P.info? e).map (·.size) = some 1) (hm : P.eqGuardType P.depth t = false) (xs ys : List UInt8)
    (hxs : xs.length = n) (hys : ys.length = n) (hne : decide (xs = ys) = false) (hx : a.eval x = .agg (W8 xs)) (hy : a.eval y = .agg (W8 ys)) (W : World) : (execOp a.eval o).run P W = .ok (.value (.bool false)) W := by
  have h := run_eq_arr t t2 x y ho e n ht he hc hm xs ys hxs hys hx hy W
  rw [hne] at h
  exact h
theorem run_pick {P : Program} {o : Oper} {a : Act} (c x y : Operand) (ho : o.op = .pick c x y) (b : Bool) {v : Value} (hc : a.eval c = .bool b) (hv : (if b then a.eval x else a.eval y) = v) (W : World) : (execOp a.eval o).run P W = .ok (.value v) W := by
  unfold execOp
  simp only [ho, hc, asBool, Sem.run_pure, Sem.run_bind, Result.andThen_ok, hv]
/-- What the operations of the group yield. -/
def PLin (E : Nat) (a b X : List UInt8) (i : Nat) (v : Value) (W : World) : Prop :=
  (i = 1 → OwnB W E v []) ∧ (i = 3 → OwnB W E v a) ∧ (i = 5 → OwnB W E v (a ++ b)) ∧ (i = 6 → v = .agg (W8 X)) ∧ (i = 7 → ∃ g, v = .pointer (some ⟨g, 0, none⟩) ∧ W.heap[g]? = some (.cells (W8 Z16) 24 (0, 0)))
def linC (i : Nat) : Option Nat := if i = 1 then some 3 else if i = 3 then some 5 else none
theorem OwnB.apart {W W' : World} {E : Nat} {v : Value} {l : List UInt8} {r : Option Nat} (h : OwnB W E v l) (hg : W.grownBy W' r) (hne : ∀ g, r = some g → blkOf v ≠ some g) : OwnB W' E v l :=
  h.grown hg (by
    rw [← h.blk]
    rcases e : r with _ | g
    · cases e2 : blkOf v <;> simp
    · exact .inr (hne g e))
theorem PLin.grown {E : Nat} {a b X : List UInt8} {i : Nat} {v : Value} {W W' : World} {r : Option Nat} (h : PLin E a b X i v W) (hg : W.grownBy W' r) (hne : ∀ g, r = some g → blkOf v ≠ some g) : PLin E a b X i v W' :=
  ⟨fun e => (h.1 e).apart hg hne, fun e => (h.2.1 e).apart hg hne, fun e => (h.2.2.1 e).apart hg hne, h.2.2.2.1, fun e => by
    obtain ⟨g, rfl, h2⟩ := h.2.2.2.2 e
    exact ⟨g, rfl, grown_block hg (fun e => hne g e.symm rfl) h2⟩⟩
set_option maxRecDepth 100000 in
set_option maxHeartbeats 4000000 in
theorem polyLinear_walk (w : World) (a : List UInt8) (ha : a.length = 16) (b : List UInt8) (hb : b.length = 16) (s : List UInt8) (hs : s.length = 16) :
    Calls Try.prog 5 #[.agg (W8 a), .agg (W8 b), .agg (W8 s)] w fun e w' => e = .returned (.bool true) ∧ Below w.heap.size w w' := by
  have HA := Lib.hid ha
  have HB := Lib.hid hb
  have HS := Lib.hid hs
  obtain ⟨i0, hi, hz0, hz1, hz2⟩ := info_parts (show (Try.prog.info? 5).map (fun i => (i.zero, i.size, i.bytes)) = some (some (.int .u8 0), 1, 1) by kernel_rfl)
  have I0 := Lib.hid hi
  have I2 := Lib.hid hz1
  have TB := Lib.hid (show ByteT Try.prog from ⟨Try.underlying23, by kernel_rfl⟩)
  clear hi hz0 hz1 hz2 ha hb hs
  go_enter Try.func5, Try.ntmps5
  go_upto_region 1 with fail
  obtain ⟨B0, hB0⟩ : ∃ B, B = w.heap.size := ⟨_, rfl⟩
  obtain ⟨w1, hw1⟩ : ∃ w1, w1 = w.alloc (.cells (W8 a) 24) := ⟨_, rfl⟩
  have S1 := Lib.hid (show Bls w [(24, B0, a)] w1 by rw [hw1]; exact (Bls.start w).new _ _ hB0)
  obtain ⟨B1, hB1⟩ : ∃ B, B = w1.heap.size := ⟨_, rfl⟩
  obtain ⟨w2, hw2⟩ : ∃ w2, w2 = w1.alloc (.cells (W8 b) 24) := ⟨_, rfl⟩
  have S2 := Lib.hid (show Bls w [(24, B1, b), (24, B0, a)] w2 by rw [hw2]; exact S1.out.new _ _ hB1)
  obtain ⟨B2, hB2⟩ : ∃ B, B = w2.heap.size := ⟨_, rfl⟩
  obtain ⟨w3, hw3⟩ : ∃ w3, w3 = w2.alloc (.cells (W8 s) 24) := ⟨_, rfl⟩
  have S3 := Lib.hid (show Bls w [(24, B2, s), (24, B1, b), (24, B0, a)] w3 by rw [hw3]; exact S2.out.new _ _ hB2)
  have e1 : w.heap.size + 1 = B1 := by rw [hB1, hw1, ha_size]
  have e2 : B1 + 1 = B2 := by rw [hB2, hw2, ha_size, hB1]
  rw [← hw1, ← hw2, ← hw3, e1, e2, ← hB0]
  clear hw1 hB0 hB1 hw2 e1 S1 S2 hw3 hB2 e2
  go_upto_region 2 with (refine wpList_store_new rfl rfl 22 (.tmp 7) (.tmp 14) rfl (W8 oneH32) rfl rfl (info_32 rfl) ?c1 (W8_one _) ?_)
  case c1 => rfl
  obtain ⟨B7, hB7⟩ : ∃ M, M = w3.heap.size := ⟨_, rfl⟩
  rw [← hB7]
  have S4 := Lib.hid (S3.out.new 22 oneH32 hB7)
  obtain ⟨w4, hw4⟩ : ∃ w4, w4 = w3.alloc (.cells (W8 oneH32) 22) := ⟨_, rfl⟩
  rw [← hw4] at S4 ⊢
  clear hw4 hB7 S3
  go_wp2_with fail
  go_loopw [8] (fun u wr => ∃ j : Nat, j ≤ 16 ∧ u = .int .i64 (j : Int) ∧ Bls w [(22, B7, oneH ++ mixB (List.replicate 16 0) s j), (24, B2, s), (24, B1, b), (24, B0, a)] wr) (fun u _ => 16 - (intOf u).toNat)
  case atStart => exact ⟨0, by omega, rfl, S4.out⟩
  case round =>
    obtain ⟨j, hj, rfl, hs⟩ := hrel
    have S4' := Lib.hid hs
    clear hs S4
    by_cases hlt : j < 16
    · have hD : decide ((j : Int) < 16) = true := by simp; omega
      obtain ⟨x, hx⟩ : ∃ x, x = s.getD j 0 := ⟨_, rfl⟩
      have a1 := S4'.out.cell (t := 24) (g := B2) (l := s) (by simp) j (by rw [HS.out]; omega)
      have a2 := S4'.out.cell (t := 22) (g := B7) (List.mem_cons_self ..) (16 + j) (by rw [List.length_append, mixB_length _ _ _ (by simp [HS.out]) (by rw [HS.out]; omega), HS.out]; show 16 + j < 16 + 16; omega)
      have f2 := S4'.out.free (t := 22) (g := B7) (List.mem_cons_self ..) (16 + j)
      rw [← hx] at a1
      have b1 : (j : Int) < 16 := by omega
      have e1 : (16 + (j : Int)).toNat = 16 + j := by omega
      have X := Lib.hid hx
      clear hx
      go_wp2_with fail
      go_roundw
      case rel =>
        refine ⟨j + 1, by omega, by go_num, ?_⟩
        have := S4'.out.set (16 + j) x
        rw [X.out, List.set_append_right _ _ (show oneH.length ≤ 16 + j by show 16 ≤ _; omega), show 16 + j - oneH.length = j by show 16 + j - 16 = j; omega, mixB_set _ _ _ (by simp [HS.out]) (by rw [HS.out]; exact hlt)] at this
        rw [X.out]
        exact this
      case measure => simp [intOf]; omega
    · have hj16 : Hid (j = 16) := show j = 16 by omega
      have hD : decide ((j : Int) < 16) = false := by simp; omega
      obtain ⟨kk, hkk⟩ : ∃ k, k = oneH ++ s := ⟨_, rfl⟩
      have KE := Lib.hid hkk
      have KL := Lib.hid (show kk.length = 32 by rw [hkk, List.length_append, HS.out]; rfl)
      obtain ⟨L, hL⟩ : ∃ L, L = [(22, B7, kk), (24, B2, s), (24, B1, b), (24, B0, a)] := ⟨_, rfl⟩
      have S5 := Lib.hid (show Bls w L wr by
        have := S4'.out
        rw [hj16.out, ← HS.out, mixB_full _ _ (by simp), ← hkk, ← hL] at this
        exact this)
      have LE := Lib.hid hL
      clear hkk hL S4' hlt hj
      go_upto_region 6 with fail
      obtain ⟨X, hX⟩ : ∃ X, X = polyL kk (a ++ b) := ⟨_, rfl⟩
      have XE := Lib.hid hX
      have XL := Lib.hid (show X.length = 16 by rw [hX]; exact polyL_length _ _)
      clear hX
      have S5d := Lib.hid S5.out.drew
      have S50 := Lib.hid (show ∀ x ∈ L, x.2.1 < wr.drew.heap.size from fun x hx => row_lt (S5d.out.has x hx))
      obtain ⟨E6, hE6⟩ : ∃ E, E = wr.drew.heap.size := ⟨_, rfl⟩
      have EE6 := Lib.hid hE6
      refine wp_region_grp (Bls w L) [0, 2, 4] [1, 3, 5, 6, 7] [(false, 8)] (by kernel_rfl) (by kernel_rfl) (fun _ _ d _ _ h => by cases d <;> exact h) S5d.out ?_
      simp only [List.filterMap_cons, List.filterMap_nil, List.getElem?_toArray, List.getElem?_cons_zero, List.getElem?_cons_succ]
      refine planQ_cons (by rfl) (fun W hW => run_load_row 22 (.tmp 7) rfl B7 rfl 22 (W8 kk) (0, 0) _ (hW.blk (by rw [LE.out]; simp)) Try.underlying22 rfl (info_32 KL.out)) ?_
      simp only [Act.put, List.setIfInBounds_toArray, List.set_cons_zero, List.set_cons_succ]
      refine planQ_cons (by rfl) (fun W hW => run_arr_all 24 (.tmp 3) rfl 16 5 Try.underlying24 I0.out B0 rfl W) ?_
      simp only [Act.put, List.setIfInBounds_toArray, List.set_cons_zero, List.set_cons_succ]
      refine planQ_cons (by rfl) (fun W hW => run_arr_all 24 (.tmp 4) rfl 16 5 Try.underlying24 I0.out B1 rfl W) ?_
      simp only [Act.put, List.setIfInBounds_toArray, List.set_cons_zero, List.set_cons_succ]
      refine planQ_nil ?_
      clear hE6
      refine ⟨GInv (Bls w L) E6 [1, 3, 5, 6, 7] linC (PLin E6 a b X), ?_, ?_, ⟨?_, ?_, ?_, ?_, ?_, trivial⟩, ?_⟩
      · exact fun vals => ⟨S5d.out, by rw [EE6.out]; exact Nat.le_refl _, fun i hi hn => absurd hi hn, fun i hi hn => absurd hi hn, fun i hi _ _ _ hn => absurd hi hn⟩
      · exact fun _ _ _ h => h.base
      ·
        intro o ho R vals W hi hnd hpre hinv K hK
        simp only [List.getElem?_toArray, List.getElem?_cons_zero, List.getElem?_cons_succ, Option.some.injEq] at ho
        subst ho
        simp only [putAll, dstOf, List.getElem?_toArray, List.getElem?_cons_zero, List.getElem?_cons_succ] at hK ⊢
        simp only [Act.put, List.setIfInBounds_toArray, List.set_cons_zero, List.set_cons_succ] at hK ⊢
        have HI := Lib.hid hinv
        have HKK := Lib.hid hK
        have HP := Lib.hid hpre
        clear hinv hK hpre
        go_simp
        have hb : Below W.heap.size W (W.alloc (.cells #[] 5)) := (Below.refl _ _).alloc (Nat.le_refl _) _
        refine HKK.out (.slice (some ⟨W.heap.size, 0, none⟩) 0 0) _ (HI.out.step 1 _ hb (HI.out.base.keep hb) ⟨fun _ => World.ownsRow_made W #[] 0 HI.out.size (Nat.zero_le _) rfl, by omega, by omega, by omega, by omega⟩ ?_ (fun g e => by cases e; simp))
        exact fun j v h => h.grown (grown_of_below hb) (by simp)
      ·
        intro o ho R vals W hi hnd hpre hinv K hK
        simp only [List.getElem?_toArray, List.getElem?_cons_zero, List.getElem?_cons_succ, Option.some.injEq] at ho
        subst ho
        simp only [putAll, dstOf, List.getElem?_toArray, List.getElem?_cons_zero, List.getElem?_cons_succ] at hK ⊢
        simp only [Act.put, List.setIfInBounds_toArray, List.set_cons_zero, List.set_cons_succ] at hK ⊢
        have HI := Lib.hid hinv
        have HKK := Lib.hid hK
        have HP := Lib.hid hpre
        clear hinv hK hpre
        have n1 : 1 ∉ R := HP.out ⟨1, .data⟩ (by simp)
        have o1 := (HI.out.post 1 (by simp) n1 (fun k e => by cases e; exact hi)).1 rfl
        refine app_wp TB.out (.tmp 26) (.tmp 27) rfl E6 _ [] a (some ⟨B0, 0, none⟩) 16 16 rfl rfl HA.out o1 (RdB.row (HI.out.base.blk (t := 24) (by rw [LE.out]; simp))) HI.out.size (by simp) ?_
        intro v1 w1 ho hg hat
        refine HKK.out v1 w1 (HI.out.app 3 1 v1 (by simp) n1 rfl hi hnd o1 ho hg hat (HI.out.base.own hg (fun g e => by have h1 := o1.lt g e; exact ⟨by have h2 := S5d.out.bel.size; have h3 := EE6.out; omega, fun x hx => by have h2 := S50.out x hx; have h3 := EE6.out; omega⟩)) ⟨by omega, fun _ => ho, by omega, by omega, by omega⟩ ?_)
        exact fun j u hne h => h.grown hg hne
      ·
        intro o ho R vals W hi hnd hpre hinv K hK
        simp only [List.getElem?_toArray, List.getElem?_cons_zero, List.getElem?_cons_succ, Option.some.injEq] at ho
        subst ho
        simp only [putAll, dstOf, List.getElem?_toArray, List.getElem?_cons_zero, List.getElem?_cons_succ] at hK ⊢
        simp only [Act.put, List.setIfInBounds_toArray, List.set_cons_zero, List.set_cons_succ] at hK ⊢
        have HI := Lib.hid hinv
        have HKK := Lib.hid hK
        have HP := Lib.hid hpre
        clear hinv hK hpre
        have n1 : 3 ∉ R := HP.out ⟨3, .data⟩ (by simp)
        have o1 := (HI.out.post 3 (by simp) n1 (fun k e => by cases e; exact hi)).2.1 rfl
        refine app_wp TB.out (.tmp 28) (.tmp 29) rfl E6 _ a b (some ⟨B1, 0, none⟩) 16 16 rfl rfl HB.out o1 (RdB.row (HI.out.base.blk (t := 24) (by rw [LE.out]; simp))) HI.out.size (by have := HA.out; omega) ?_
        intro v1 w1 ho hg hat
        refine HKK.out v1 w1 (HI.out.app 5 3 v1 (by simp) n1 rfl hi hnd o1 ho hg hat (HI.out.base.own hg (fun g e => by have h1 := o1.lt g e; exact ⟨by have h2 := S5d.out.bel.size; have h3 := EE6.out; omega, fun x hx => by have h2 := S50.out x hx; have h3 := EE6.out; omega⟩)) ⟨by omega, by omega, fun _ => ho, by omega, by omega⟩ ?_)
        exact fun j u hne h => h.grown hg hne
      ·
        intro o ho R vals W hi hnd hpre hinv K hK
        simp only [List.getElem?_toArray, List.getElem?_cons_zero, List.getElem?_cons_succ, Option.some.injEq] at ho
        subst ho
        simp only [putAll, dstOf, List.getElem?_toArray, List.getElem?_cons_zero, List.getElem?_cons_succ] at hK ⊢
        simp only [Act.put, List.setIfInBounds_toArray, List.set_cons_zero, List.set_cons_succ] at hK ⊢
        have HI := Lib.hid hinv
        have HKK := Lib.hid hK
        have HP := Lib.hid hpre
        clear hinv hK hpre
        go_simp
        have n1 : 5 ∉ R := HP.out ⟨5, .data⟩ (by simp)
        have o1 := (HI.out.post 5 (by simp) n1 (fun k e => by cases e)).2.2.1 rfl
        obtain ⟨A5, c5, e5, hr5, hl5, _, _⟩ := o1.read
        have hc := polySum_any kk KL.out W A5 _ c5 (a ++ b) rfl hl5 hr5 (by have := HA.out; have := HB.out; simp; omega)
        rw [← e5, ← XE.out] at hc
        refine hc.mono ?_
        rintro e w' ⟨rfl, hb⟩
        refine HKK.out _ _ (HI.out.step 6 _ hb (HI.out.base.keep hb) ⟨by omega, by omega, by omega, fun _ => rfl, by omega⟩ ?_ (fun g e => by cases e))
        exact fun j v h => h.grown (grown_of_below hb) (by simp)
      ·
        intro o ho R vals W hi hnd hpre hinv K hK
        simp only [List.getElem?_toArray, List.getElem?_cons_zero, List.getElem?_cons_succ, Option.some.injEq] at ho
        subst ho
        simp only [putAll, dstOf, List.getElem?_toArray, List.getElem?_cons_zero, List.getElem?_cons_succ] at hK ⊢
        simp only [Act.put, List.setIfInBounds_toArray, List.set_cons_zero, List.set_cons_succ] at hK ⊢
        have HI := Lib.hid hinv
        have HKK := Lib.hid hK
        have HP := Lib.hid hpre
        clear hinv hK hpre
        go_simp
        have hb : Below W.heap.size W (W.alloc (.cells (W8 Z16) 24)) := (Below.refl _ _).alloc (Nat.le_refl _) _
        refine HKK.out (.pointer (some ⟨W.heap.size, 0, none⟩)) _ (HI.out.step 7 _ hb (HI.out.base.keep hb) ⟨by omega, by omega, by omega, by omega, fun _ => ⟨_, rfl, ha_new _ _ _ rfl⟩⟩ ?_ (fun g e => by cases e; simp))
        exact fun j v h => h.grown (grown_of_below hb) (by simp)
      intro vals W hinv
      simp only [putAll, dstOf, List.getElem?_toArray, List.getElem?_cons_zero, List.getElem?_cons_succ]
      simp only [Act.put, List.setIfInBounds_toArray, List.set_cons_zero, List.set_cons_succ, List.filterMap_cons, List.filterMap_nil, List.getElem?_toArray, List.getElem?_cons_zero, List.getElem?_cons_succ, Option.map_some]
      have v6 : vals 6 = .agg (W8 X) := (hinv.post 6 (by simp) (by simp) (fun k e => by cases e)).2.2.2.1 rfl
      obtain ⟨g9, v7, c7⟩ := (hinv.post 7 (by simp) (by simp) (fun k e => by cases e)).2.2.2.2 rfl
      have o7 := hinv.own 7 (by simp) (by simp) (fun k e => by cases e) g9 (by rw [v7]; rfl)
      have S5b := Lib.hid hinv.base
      have C7 := Lib.hid c7
      have O7 := Lib.hid (show (w.heap.size ≤ g9 ∧ ∀ x ∈ L, x.2.1 < g9) from ⟨by have := S5d.out.bel.size; have h3 := EE6.out; omega, fun x hx => by have := S50.out x hx; have h3 := EE6.out; omega⟩)
      rw [v6, v7]
      clear hinv v6 v7 c7 o7
      refine planG_t (by rfl) (fun K hK => ?_)
      refine storeW_wp 24 (.tmp 9) (.tmp 31) rfl g9 (W8 X) rfl rfl _ _ C7.out (info_16 XL.out) (by rw [W8_size, W8_size, XL.out]; rfl) (W8_one _) ?_
      intro w5 hz5 hg5 hs5
      have S5g := Lib.hid (S5b.out.grown hg5 O7.out.1 (fun x hx => by have := O7.out.2 x hx; omega))
      have S6 := Lib.hid (S5g.out.put hz5 O7.out.2 O7.out.1)
      clear hz5 hg5 hs5 C7 O7 S5b S50 S5 S5d EE6
      refine hK.out _ _ (S5g.out) ?_
      clear hK K
      refine planG_nil ?_
      clear S5g
      obtain ⟨Ln, hLn⟩ : ∃ L', L' = ((24, g9, X) :: L) := ⟨_, rfl⟩
      rw [← hLn] at S6
      have LnE := Lib.hid (show Ln = (24, g9, X) :: [(22, B7, kk), (24, B2, s), (24, B1, b), (24, B0, a)] by rw [hLn, LE.out])
      clear hLn

      go_upto_region 7 with fail
      obtain ⟨Y, hY⟩ : ∃ X, X = polyL kk (b ++ a) := ⟨_, rfl⟩
      have YE := Lib.hid hY
      have YL := Lib.hid (show Y.length = 16 by rw [hY]; exact polyL_length _ _)
      clear hY
      have S6d := Lib.hid S6.out.drew
      have S60 := Lib.hid (show ∀ x ∈ Ln, x.2.1 < w5.drew.heap.size from fun x hx => row_lt (S6d.out.has x hx))
      obtain ⟨E7, hE7⟩ : ∃ E, E = w5.drew.heap.size := ⟨_, rfl⟩
      have EE7 := Lib.hid hE7
      refine wp_region_grp (Bls w Ln) [0, 2, 4] [1, 3, 5, 6, 7] [(false, 8)] (by kernel_rfl) (by kernel_rfl) (fun _ _ d _ _ h => by cases d <;> exact h) S6d.out ?_
      simp only [List.filterMap_cons, List.filterMap_nil, List.getElem?_toArray, List.getElem?_cons_zero, List.getElem?_cons_succ]
      refine planQ_cons (by rfl) (fun W hW => run_load_row 22 (.tmp 7) rfl B7 rfl 22 (W8 kk) (0, 0) _ (hW.blk (by rw [LnE.out]; simp)) Try.underlying22 rfl (info_32 KL.out)) ?_
      simp only [Act.put, List.setIfInBounds_toArray, List.set_cons_zero, List.set_cons_succ]
      refine planQ_cons (by rfl) (fun W hW => run_arr_all 24 (.tmp 4) rfl 16 5 Try.underlying24 I0.out B1 rfl W) ?_
      simp only [Act.put, List.setIfInBounds_toArray, List.set_cons_zero, List.set_cons_succ]
      refine planQ_cons (by rfl) (fun W hW => run_arr_all 24 (.tmp 3) rfl 16 5 Try.underlying24 I0.out B0 rfl W) ?_
      simp only [Act.put, List.setIfInBounds_toArray, List.set_cons_zero, List.set_cons_succ]
      refine planQ_nil ?_
      clear hE7
      refine ⟨GInv (Bls w Ln) E7 [1, 3, 5, 6, 7] linC (PLin E7 b a Y), ?_, ?_, ⟨?_, ?_, ?_, ?_, ?_, trivial⟩, ?_⟩
      · exact fun vals => ⟨S6d.out, by rw [EE7.out]; exact Nat.le_refl _, fun i hi hn => absurd hi hn, fun i hi hn => absurd hi hn, fun i hi _ _ _ hn => absurd hi hn⟩
      · exact fun _ _ _ h => h.base
      ·
        intro o ho R vals W hi hnd hpre hinv K hK
        simp only [List.getElem?_toArray, List.getElem?_cons_zero, List.getElem?_cons_succ, Option.some.injEq] at ho
        subst ho
        simp only [putAll, dstOf, List.getElem?_toArray, List.getElem?_cons_zero, List.getElem?_cons_succ] at hK ⊢
        simp only [Act.put, List.setIfInBounds_toArray, List.set_cons_zero, List.set_cons_succ] at hK ⊢
        have HI := Lib.hid hinv
        have HKK := Lib.hid hK
        have HP := Lib.hid hpre
        clear hinv hK hpre
        go_simp
        have hb : Below W.heap.size W (W.alloc (.cells #[] 5)) := (Below.refl _ _).alloc (Nat.le_refl _) _
        refine HKK.out (.slice (some ⟨W.heap.size, 0, none⟩) 0 0) _ (HI.out.step 1 _ hb (HI.out.base.keep hb) ⟨fun _ => World.ownsRow_made W #[] 0 HI.out.size (Nat.zero_le _) rfl, by omega, by omega, by omega, by omega⟩ ?_ (fun g e => by cases e; simp))
        exact fun j v h => h.grown (grown_of_below hb) (by simp)
      ·
        intro o ho R vals W hi hnd hpre hinv K hK
        simp only [List.getElem?_toArray, List.getElem?_cons_zero, List.getElem?_cons_succ, Option.some.injEq] at ho
        subst ho
        simp only [putAll, dstOf, List.getElem?_toArray, List.getElem?_cons_zero, List.getElem?_cons_succ] at hK ⊢
        simp only [Act.put, List.setIfInBounds_toArray, List.set_cons_zero, List.set_cons_succ] at hK ⊢
        have HI := Lib.hid hinv
        have HKK := Lib.hid hK
        have HP := Lib.hid hpre
        clear hinv hK hpre
        have n1 : 1 ∉ R := HP.out ⟨1, .data⟩ (by simp)
        have o1 := (HI.out.post 1 (by simp) n1 (fun k e => by cases e; exact hi)).1 rfl
        refine app_wp TB.out (.tmp 33) (.tmp 34) rfl E7 _ [] b (some ⟨B1, 0, none⟩) 16 16 rfl rfl HB.out o1 (RdB.row (HI.out.base.blk (t := 24) (by rw [LnE.out]; simp))) HI.out.size (by simp) ?_
        intro v1 w1 ho hg hat
        refine HKK.out v1 w1 (HI.out.app 3 1 v1 (by simp) n1 rfl hi hnd o1 ho hg hat (HI.out.base.own hg (fun g e => by have h1 := o1.lt g e; exact ⟨by have h2 := S6d.out.bel.size; have h3 := EE7.out; omega, fun x hx => by have h2 := S60.out x hx; have h3 := EE7.out; omega⟩)) ⟨by omega, fun _ => ho, by omega, by omega, by omega⟩ ?_)
        exact fun j u hne h => h.grown hg hne
      ·
        intro o ho R vals W hi hnd hpre hinv K hK
        simp only [List.getElem?_toArray, List.getElem?_cons_zero, List.getElem?_cons_succ, Option.some.injEq] at ho
        subst ho
        simp only [putAll, dstOf, List.getElem?_toArray, List.getElem?_cons_zero, List.getElem?_cons_succ] at hK ⊢
        simp only [Act.put, List.setIfInBounds_toArray, List.set_cons_zero, List.set_cons_succ] at hK ⊢
        have HI := Lib.hid hinv
        have HKK := Lib.hid hK
        have HP := Lib.hid hpre
        clear hinv hK hpre
        have n1 : 3 ∉ R := HP.out ⟨3, .data⟩ (by simp)
        have o1 := (HI.out.post 3 (by simp) n1 (fun k e => by cases e; exact hi)).2.1 rfl
        refine app_wp TB.out (.tmp 35) (.tmp 36) rfl E7 _ b a (some ⟨B0, 0, none⟩) 16 16 rfl rfl HA.out o1 (RdB.row (HI.out.base.blk (t := 24) (by rw [LnE.out]; simp))) HI.out.size (by have := HB.out; omega) ?_
        intro v1 w1 ho hg hat
        refine HKK.out v1 w1 (HI.out.app 5 3 v1 (by simp) n1 rfl hi hnd o1 ho hg hat (HI.out.base.own hg (fun g e => by have h1 := o1.lt g e; exact ⟨by have h2 := S6d.out.bel.size; have h3 := EE7.out; omega, fun x hx => by have h2 := S60.out x hx; have h3 := EE7.out; omega⟩)) ⟨by omega, by omega, fun _ => ho, by omega, by omega⟩ ?_)
        exact fun j u hne h => h.grown hg hne
      ·
        intro o ho R vals W hi hnd hpre hinv K hK
        simp only [List.getElem?_toArray, List.getElem?_cons_zero, List.getElem?_cons_succ, Option.some.injEq] at ho
        subst ho
        simp only [putAll, dstOf, List.getElem?_toArray, List.getElem?_cons_zero, List.getElem?_cons_succ] at hK ⊢
        simp only [Act.put, List.setIfInBounds_toArray, List.set_cons_zero, List.set_cons_succ] at hK ⊢
        have HI := Lib.hid hinv
        have HKK := Lib.hid hK
        have HP := Lib.hid hpre
        clear hinv hK hpre
        go_simp
        have n1 : 5 ∉ R := HP.out ⟨5, .data⟩ (by simp)
        have o1 := (HI.out.post 5 (by simp) n1 (fun k e => by cases e)).2.2.1 rfl
        obtain ⟨A5, c5, e5, hr5, hl5, _, _⟩ := o1.read
        have hc := polySum_any kk KL.out W A5 _ c5 (b ++ a) rfl hl5 hr5 (by have := HB.out; have := HA.out; simp; omega)
        rw [← e5, ← YE.out] at hc
        refine hc.mono ?_
        rintro e w' ⟨rfl, hb⟩
        refine HKK.out _ _ (HI.out.step 6 _ hb (HI.out.base.keep hb) ⟨by omega, by omega, by omega, fun _ => rfl, by omega⟩ ?_ (fun g e => by cases e))
        exact fun j v h => h.grown (grown_of_below hb) (by simp)
      ·
        intro o ho R vals W hi hnd hpre hinv K hK
        simp only [List.getElem?_toArray, List.getElem?_cons_zero, List.getElem?_cons_succ, Option.some.injEq] at ho
        subst ho
        simp only [putAll, dstOf, List.getElem?_toArray, List.getElem?_cons_zero, List.getElem?_cons_succ] at hK ⊢
        simp only [Act.put, List.setIfInBounds_toArray, List.set_cons_zero, List.set_cons_succ] at hK ⊢
        have HI := Lib.hid hinv
        have HKK := Lib.hid hK
        have HP := Lib.hid hpre
        clear hinv hK hpre
        go_simp
        have hb : Below W.heap.size W (W.alloc (.cells (W8 Z16) 24)) := (Below.refl _ _).alloc (Nat.le_refl _) _
        refine HKK.out (.pointer (some ⟨W.heap.size, 0, none⟩)) _ (HI.out.step 7 _ hb (HI.out.base.keep hb) ⟨by omega, by omega, by omega, by omega, fun _ => ⟨_, rfl, ha_new _ _ _ rfl⟩⟩ ?_ (fun g e => by cases e; simp))
        exact fun j v h => h.grown (grown_of_below hb) (by simp)
      intro vals W hinv
      simp only [putAll, dstOf, List.getElem?_toArray, List.getElem?_cons_zero, List.getElem?_cons_succ]
      simp only [Act.put, List.setIfInBounds_toArray, List.set_cons_zero, List.set_cons_succ, List.filterMap_cons, List.filterMap_nil, List.getElem?_toArray, List.getElem?_cons_zero, List.getElem?_cons_succ, Option.map_some]
      have v6 : vals 6 = .agg (W8 Y) := (hinv.post 6 (by simp) (by simp) (fun k e => by cases e)).2.2.2.1 rfl
      obtain ⟨g10, v7, c7⟩ := (hinv.post 7 (by simp) (by simp) (fun k e => by cases e)).2.2.2.2 rfl
      have o7 := hinv.own 7 (by simp) (by simp) (fun k e => by cases e) g10 (by rw [v7]; rfl)
      have S6b := Lib.hid hinv.base
      have C7 := Lib.hid c7
      have O7 := Lib.hid (show (w.heap.size ≤ g10 ∧ ∀ x ∈ Ln, x.2.1 < g10) from ⟨by have := S6d.out.bel.size; have h3 := EE7.out; omega, fun x hx => by have := S60.out x hx; have h3 := EE7.out; omega⟩)
      rw [v6, v7]
      clear hinv v6 v7 c7 o7
      refine planG_t (by rfl) (fun K hK => ?_)
      refine storeW_wp 24 (.tmp 10) (.tmp 38) rfl g10 (W8 Y) rfl rfl _ _ C7.out (info_16 YL.out) (by rw [W8_size, W8_size, YL.out]; rfl) (W8_one _) ?_
      intro w5 hz5 hg5 hs5
      have S6g := Lib.hid (S6b.out.grown hg5 O7.out.1 (fun x hx => by have := O7.out.2 x hx; omega))
      have S7 := Lib.hid (S6g.out.put hz5 O7.out.2 O7.out.1)
      clear hz5 hg5 hs5 C7 O7 S6b S60 S6 S6d EE7
      refine hK.out _ _ (S6g.out) ?_
      clear hK K
      refine planG_nil ?_
      clear S6g
      obtain ⟨Lnn, hLnn⟩ : ∃ L', L' = ((24, g10, Y) :: Ln) := ⟨_, rfl⟩
      rw [← hLnn] at S7
      have LnnE := Lib.hid (show Lnn = (24, g10, Y) :: (24, g9, X) :: [(22, B7, kk), (24, B2, s), (24, B1, b), (24, B0, a)] by rw [hLnn, LnE.out])
      clear hLnn
      go_upto_region 9 with fail
      rw [← zero16]
      obtain ⟨B11, hB11⟩ : ∃ M, M = w5.heap.size := ⟨_, rfl⟩
      rw [← hB11]
      have S8 := Lib.hid (S7.out.new 24 Z16 hB11)
      obtain ⟨w6, hw6⟩ : ∃ w6, w6 = w5.alloc (.cells (W8 Z16) 24) := ⟨_, rfl⟩
      rw [← hw6] at S8 ⊢
      clear hw6 hB11 S7 hD
      obtain ⟨T, hT⟩ : ∃ T, T = bytesN (leNat a + leNat b + leNat s) := ⟨_, rfl⟩
      have TL := Lib.hid (show T.length = 16 by rw [hT]; exact bytesN_length _)
      have TG := Lib.hid (show ∀ i, i < 16 → UInt8.ofNat (cN3 a b s i + (a.getD i 0).toNat + (b.getD i 0).toNat + (s.getD i 0).toNat) = T.getD i 0 from fun i hi => by rw [hT]; exact cN3_digit a b s HA.out HB.out HS.out i hi)
      have LIN := Lib.hid (show X = Y ∧ (X = T ∨ (a.getD 15 0 = 255 ∧ b.getD 15 0 = 255)) by rw [XE.out, YE.out, KE.out, hT]; exact poly_linear a b s HA.out HB.out HS.out)
      clear hT
      go_wp2_with fail
      go_loopw [12, 13] (fun u i wr => ∃ r : Nat, r ≤ 16 ∧ u = .int .i64 (cN3 a b s r : Int) ∧ i = .int .i64 (r : Int) ∧ Bls w ((24, B11, mixB Z16 T r) :: Lnn) wr) (fun _ i _ => 16 - (intOf i).toNat)
      case atStart => exact ⟨0, by omega, rfl, rfl, by rw [mixB_zero]; exact S8.out⟩
      case round =>
        obtain ⟨r, hr, rfl, rfl, sr⟩ := hrel
        have T1 := Lib.hid sr
        clear sr S8
        by_cases hlt : r < 16
        · have hD : decide ((r : Int) < 16) = true := by simp; omega
          have R16 := Lib.hid hlt
          obtain ⟨x, hx⟩ : ∃ x, x = a.getD r 0 := ⟨_, rfl⟩
          obtain ⟨y, hy⟩ : ∃ x, x = b.getD r 0 := ⟨_, rfl⟩
          obtain ⟨u, hu⟩ : ∃ x, x = s.getD r 0 := ⟨_, rfl⟩
          obtain ⟨c, hc⟩ : ∃ c, c = cN3 a b s r := ⟨_, rfl⟩
          have CN := Lib.hid (show cN3 a b s (r + 1) = (c + x.toNat + y.toNat + u.toNat) / 256 by rw [cN3, hc, hx, hy, hu])
          have C1 := Lib.hid (show c ≤ 2 by rw [hc]; exact cN3_le _ _ _ _)
          have TR := Lib.hid (show UInt8.ofNat (c + x.toNat + y.toNat + u.toNat) = T.getD r 0 by rw [hc, hx, hy, hu]; exact TG.out r hlt)
          have CX := Lib.hid (fun (W : World) (h : Bls w ((24, B11, mixB Z16 T r) :: Lnn) W) => (show W.cell? ⟨B0, r, none⟩ = some (.int .u8 (x.toNat : Int)) by rw [hx]; exact h.cell (t := 24) (by rw [LnnE.out]; simp) r (by rw [HA.out]; exact hlt)))
          have CY := Lib.hid (fun (W : World) (h : Bls w ((24, B11, mixB Z16 T r) :: Lnn) W) => (show W.cell? ⟨B1, r, none⟩ = some (.int .u8 (y.toNat : Int)) by rw [hy]; exact h.cell (t := 24) (by rw [LnnE.out]; simp) r (by rw [HB.out]; exact hlt)))
          have CU := Lib.hid (fun (W : World) (h : Bls w ((24, B11, mixB Z16 T r) :: Lnn) W) => (show W.cell? ⟨B2, r, none⟩ = some (.int .u8 (u.toNat : Int)) by rw [hu]; exact h.cell (t := 24) (by rw [LnnE.out]; simp) r (by rw [HS.out]; exact hlt)))
          rw [← hc]
          clear hx hy hu hc hr
          have rb : (r : Int) < 16 := by have := R16.out; omega
          go_upto_region 13 with fail
          obtain ⟨z, hz, e1⟩ := sum4_ex c x y u C1.out
          refine wp_region_plan (Bls w ((24, B11, mixB Z16 T r) :: Lnn)) [0, 1, 2, 3, 4, 5, 6, 7, 8, 9, 10, 11, 12, 13, 14, 15, 16] [] (by kernel_rfl) (by kernel_rfl) (fun _ _ d _ _ h => by cases d <;> exact h) (T1.out.drew) ?_
          simp only [List.filterMap_cons, List.filterMap_nil, List.getElem?_toArray, List.getElem?_cons_zero, List.getElem?_cons_succ]
          refine planQ_cons (v := ?_) (by rfl) ?_ ?_
          rotate_left
          · intro W hW
            go_simp
            with_reducible rfl
          simp only [Act.put, List.setIfInBounds_toArray, List.set_cons_zero, List.set_cons_succ]
          refine planQ_cons (v := ?_) (by rfl) ?_ ?_
          rotate_left
          · intro W hW
            go_simp
            with_reducible rfl
          simp only [Act.put, List.setIfInBounds_toArray, List.set_cons_zero, List.set_cons_succ]
          refine planQ_cons (v := ?_) (by rfl) ?_ ?_
          rotate_left
          · intro W hW
            go_simp
            with_reducible rfl
          simp only [Act.put, List.setIfInBounds_toArray, List.set_cons_zero, List.set_cons_succ]
          refine planQ_cons (by rfl) (fun W hW => run_cell 5 (.tmp 45) rfl _ Try.underlying5 rfl rfl (CX.out W hW)) ?_
          simp only [Act.put, List.setIfInBounds_toArray, List.set_cons_zero, List.set_cons_succ]
          refine planQ_cons (v := ?_) (by rfl) ?_ ?_
          rotate_left
          · intro W hW
            go_simp
            with_reducible rfl
          simp only [Act.put, List.setIfInBounds_toArray, List.set_cons_zero, List.set_cons_succ]
          refine planQ_cons (v := ?_) (by rfl) ?_ ?_
          rotate_left
          · intro W hW
            go_simp
            with_reducible rfl
          simp only [Act.put, List.setIfInBounds_toArray, List.set_cons_zero, List.set_cons_succ]
          refine planQ_cons (v := ?_) (by rfl) ?_ ?_
          rotate_left
          · intro W hW
            go_simp
            with_reducible rfl
          simp only [Act.put, List.setIfInBounds_toArray, List.set_cons_zero, List.set_cons_succ]
          refine planQ_cons (v := ?_) (by rfl) ?_ ?_
          rotate_left
          · intro W hW
            go_simp
            with_reducible rfl
          simp only [Act.put, List.setIfInBounds_toArray, List.set_cons_zero, List.set_cons_succ]
          refine planQ_cons (by rfl) (fun W hW => run_cell 5 (.tmp 50) rfl _ Try.underlying5 rfl rfl (CY.out W hW)) ?_
          simp only [Act.put, List.setIfInBounds_toArray, List.set_cons_zero, List.set_cons_succ]
          refine planQ_cons (v := ?_) (by rfl) ?_ ?_
          rotate_left
          · intro W hW
            go_simp
            with_reducible rfl
          simp only [Act.put, List.setIfInBounds_toArray, List.set_cons_zero, List.set_cons_succ]
          refine planQ_cons (v := ?_) (by rfl) ?_ ?_
          rotate_left
          · intro W hW
            go_simp
            with_reducible rfl
          simp only [Act.put, List.setIfInBounds_toArray, List.set_cons_zero, List.set_cons_succ]
          refine planQ_cons (v := ?_) (by rfl) ?_ ?_
          rotate_left
          · intro W hW
            go_simp
            with_reducible rfl
          simp only [Act.put, List.setIfInBounds_toArray, List.set_cons_zero, List.set_cons_succ]
          refine planQ_cons (v := ?_) (by rfl) ?_ ?_
          rotate_left
          · intro W hW
            go_simp
            with_reducible rfl
          simp only [Act.put, List.setIfInBounds_toArray, List.set_cons_zero, List.set_cons_succ]
          refine planQ_cons (by rfl) (fun W hW => run_cell 5 (.tmp 55) rfl _ Try.underlying5 rfl rfl (CU.out W hW)) ?_
          simp only [Act.put, List.setIfInBounds_toArray, List.set_cons_zero, List.set_cons_succ]
          refine planQ_cons (v := ?_) (by rfl) ?_ ?_
          rotate_left
          · intro W hW
            go_simp
            with_reducible rfl
          simp only [Act.put, List.setIfInBounds_toArray, List.set_cons_zero, List.set_cons_succ]
          refine planQ_cons (v := ?_) (by rfl) ?_ ?_
          rotate_left
          · intro W hW
            go_simp
            with_reducible rfl
          simp only [Act.put, List.setIfInBounds_toArray, List.set_cons_zero, List.set_cons_succ]
          refine planQ_cons (v := ?_) (by rfl) ?_ ?_
          rotate_left
          · intro W hW
            go_simp
            with_reducible rfl
          simp only [Act.put, List.setIfInBounds_toArray, List.set_cons_zero, List.set_cons_succ]
          refine planQ_nil ?_
          refine planT_nil ?_
          clear e1
          have T2 := Lib.hid T1.out.drew
          obtain ⟨w7, hw7⟩ : ∃ w7, w7 = wr.drew := ⟨_, rfl⟩
          rw [← hw7] at T2 ⊢
          clear hw7 T1
          obtain ⟨p1, hp1⟩ : ∃ p, p = z / 256 := ⟨_, rfl⟩
          obtain ⟨t, ht⟩ : ∃ t, t = T.getD r 0 := ⟨_, rfl⟩
          have e5 : (z : Int) / 256 = (p1 : Int) := by omega
          have e6 : (z : Int) % 256 = (t.toNat : Int) := by rw [ht, ← TR.out, ← hz.out]; simp
          have zb : (z : Int) ≤ 1000 := by have := hz.out; have := C1.out; have := x.toNat_lt; have := y.toNat_lt; have := u.toNat_lt; omega
          have P1 := Lib.hid hp1
          have TT := Lib.hid ht
          clear hp1 ht
          have ML := Lib.hid (show (mixB Z16 T r).length = 16 by rw [mixB_length _ _ _ (by rw [TL.out]; rfl) (by rw [TL.out]; omega), TL.out])
          have a2 := T2.out.cell (t := 24) (g := B11) (List.mem_cons_self ..) r (by rw [ML.out]; exact hlt)
          have f2 := T2.out.free (t := 24) (g := B11) (List.mem_cons_self ..) r
          go_wp2_with fail
          go_roundw
          case rel =>
            refine ⟨r + 1, by have := R16.out; omega, by rw [CN.out, ← hz.out, ← P1.out], by go_num, ?_⟩
            have := T2.out.set r t
            rw [TT.out, mixB_set _ _ _ (by rw [TL.out]; rfl) (by rw [TL.out]; exact hlt)] at this
            rw [TT.out]
            exact this
          case measure => have := R16.out; simp [intOf]; omega
        · have hr16 : Hid (r = 16) := show r = 16 by omega
          have hD : decide ((r : Int) < 16) = false := by simp; omega
          have T2 := Lib.hid (show Bls w ((24, B11, T) :: Lnn) wr by have := T1.out; rw [hr16.out, ← TL.out, mixB_full _ _ (by rw [TL.out]; rfl)] at this; exact this)
          clear hlt hr T1
          have KX := Lib.hid (fun (W : World) (h : Bls w ((24, B11, T) :: Lnn) W) => h.blk (t := 24) (g := g9) (l := X) (by rw [LnnE.out]; simp))
          have KY := Lib.hid (fun (W : World) (h : Bls w ((24, B11, T) :: Lnn) W) => h.blk (t := 24) (g := g10) (l := Y) (by rw [LnnE.out]; simp))
          have KT := Lib.hid (fun (W : World) (h : Bls w ((24, B11, T) :: Lnn) W) => h.blk (t := 24) (g := B11) (l := T) (by simp))
          by_cases hw : X = T
          · have HW := Lib.hid hw
            clear hw
            go_upto_region 16 with fail
            clear hD
            refine wp_region_list ?_
            simp only [List.toList_toArray]
            refine wpList_val (by rfl) (run_load_row 24 (.tmp 9) rfl g9 rfl 24 (W8 X) (0, 0) _ (KX.out _ T2.out) Try.underlying24 rfl (info_16 XL.out)) ?_
            simp only [Act.put, List.setIfInBounds_toArray, List.set_cons_zero, List.set_cons_succ]
            refine wpList_val (by rfl) (run_load_row 24 (.tmp 10) rfl g10 rfl 24 (W8 Y) (0, 0) _ (KY.out _ T2.out) Try.underlying24 rfl (info_16 YL.out)) ?_
            simp only [Act.put, List.setIfInBounds_toArray, List.set_cons_zero, List.set_cons_succ]
            refine wpList_val (by rfl) (run_eq_arr_true 24 _ (.tmp 65) (.tmp 66) rfl 5 16 Try.underlying24 Try.underlying5 (by kernel_rfl) (by kernel_rfl) X Y XL.out LIN.out.1 rfl rfl _) ?_
            simp only [Act.put, List.setIfInBounds_toArray, List.set_cons_zero, List.set_cons_succ]
            refine wpList_val (by rfl) (run_move (v := .bool true) (.tmp 67) rfl rfl _) ?_
            simp only [Act.put, List.setIfInBounds_toArray, List.set_cons_zero, List.set_cons_succ]
            refine wpList_valg (by rfl) (run_load_row 24 (.tmp 9) rfl g9 rfl 24 (W8 X) (0, 0) _ (KX.out _ T2.out) Try.underlying24 rfl (info_16 XL.out)) ?_
            simp only [Act.put, List.setIfInBounds_toArray, List.set_cons_zero, List.set_cons_succ]
            refine wpList_valg (by rfl) (run_load_row 24 (.tmp 11) rfl B11 rfl 24 (W8 T) (0, 0) _ (KT.out _ T2.out) Try.underlying24 rfl (info_16 TL.out)) ?_
            simp only [Act.put, List.setIfInBounds_toArray, List.set_cons_zero, List.set_cons_succ]
            refine wpList_valg (by rfl) (run_eq_arr_true 24 _ (.tmp 69) (.tmp 70) rfl 5 16 Try.underlying24 Try.underlying5 (by kernel_rfl) (by kernel_rfl) X T XL.out HW.out rfl rfl _) ?_
            simp only [Act.put, List.setIfInBounds_toArray, List.set_cons_zero, List.set_cons_succ]
            go_wp2_with fail
            refine (polyOne_true _).mono ?_
            rintro e w8 ⟨rfl, hb8⟩
            go_wp2_with fail
            go_ret
            exact ⟨rfl, (T2.out.keep hb8).bel⟩
          · have HW := Lib.hid (decide_eq_false hw)
            have A15 := Lib.hid (LIN.out.2.resolve_left hw)
            have PA := Lib.hid (show wr.cell? ⟨B0, 15, none⟩ = some (.int .u8 255) by
              have := T2.out.cell (t := 24) (g := B0) (l := a) (by rw [LnnE.out]; simp) 15 (by rw [HA.out]; omega)
              rw [A15.out.1] at this
              exact this)
            have PB := Lib.hid (show wr.cell? ⟨B1, 15, none⟩ = some (.int .u8 255) by
              have := T2.out.cell (t := 24) (g := B1) (l := b) (by rw [LnnE.out]; simp) 15 (by rw [HB.out]; omega)
              rw [A15.out.2] at this
              exact this)
            clear hw
            go_upto_region 16 with fail
            clear hD
            refine wp_region_list ?_
            simp only [List.toList_toArray]
            refine wpList_val (by rfl) (run_load_row 24 (.tmp 9) rfl g9 rfl 24 (W8 X) (0, 0) _ (KX.out _ T2.out) Try.underlying24 rfl (info_16 XL.out)) ?_
            simp only [Act.put, List.setIfInBounds_toArray, List.set_cons_zero, List.set_cons_succ]
            refine wpList_val (by rfl) (run_load_row 24 (.tmp 10) rfl g10 rfl 24 (W8 Y) (0, 0) _ (KY.out _ T2.out) Try.underlying24 rfl (info_16 YL.out)) ?_
            simp only [Act.put, List.setIfInBounds_toArray, List.set_cons_zero, List.set_cons_succ]
            refine wpList_val (by rfl) (run_eq_arr_true 24 _ (.tmp 65) (.tmp 66) rfl 5 16 Try.underlying24 Try.underlying5 (by kernel_rfl) (by kernel_rfl) X Y XL.out LIN.out.1 rfl rfl _) ?_
            simp only [Act.put, List.setIfInBounds_toArray, List.set_cons_zero, List.set_cons_succ]
            refine wpList_val (by rfl) (run_move (v := .bool true) (.tmp 67) rfl rfl _) ?_
            simp only [Act.put, List.setIfInBounds_toArray, List.set_cons_zero, List.set_cons_succ]
            refine wpList_valg (by rfl) (run_load_row 24 (.tmp 9) rfl g9 rfl 24 (W8 X) (0, 0) _ (KX.out _ T2.out) Try.underlying24 rfl (info_16 XL.out)) ?_
            simp only [Act.put, List.setIfInBounds_toArray, List.set_cons_zero, List.set_cons_succ]
            refine wpList_valg (by rfl) (run_load_row 24 (.tmp 11) rfl B11 rfl 24 (W8 T) (0, 0) _ (KT.out _ T2.out) Try.underlying24 rfl (info_16 TL.out)) ?_
            simp only [Act.put, List.setIfInBounds_toArray, List.set_cons_zero, List.set_cons_succ]
            refine wpList_valg (by rfl) (run_eq_arr_no 24 _ (.tmp 69) (.tmp 70) rfl 5 16 Try.underlying24 Try.underlying5 (by kernel_rfl) (by kernel_rfl) X T XL.out TL.out HW.out rfl rfl _) ?_
            simp only [Act.put, List.setIfInBounds_toArray, List.set_cons_zero, List.set_cons_succ]
            refine wpList_valg (by rfl) (run_move (v := .bool false) (.tmp 71) rfl rfl _) ?_
            simp only [Act.put, List.setIfInBounds_toArray, List.set_cons_zero, List.set_cons_succ]
            refine wpList_valg (by rfl) (run_iaddr_arr 24 (.tmp 3) (.const (.int .i64 15)) rfl 16 5 Try.underlying24 I0.out I2.out B0 15 (by omega) .i64 _ rfl rfl rfl _) ?_
            simp only [Act.put, List.setIfInBounds_toArray, List.set_cons_zero, List.set_cons_succ]
            refine wpList_valg (by rfl) (run_cell 5 (.tmp 73) rfl _ Try.underlying5 rfl rfl PA.out) ?_
            simp only [Act.put, List.setIfInBounds_toArray, List.set_cons_zero, List.set_cons_succ]
            have pa := PA.out
            have pb := PB.out
            go_wp2_with fail
            refine (polyOne_true _).mono ?_
            rintro e w8 ⟨rfl, hb8⟩
            go_wp2_with fail
            go_ret
            exact ⟨rfl, (T2.out.keep hb8).bel⟩
end Go.Proofs.Ytcpagoeaknlieaa
