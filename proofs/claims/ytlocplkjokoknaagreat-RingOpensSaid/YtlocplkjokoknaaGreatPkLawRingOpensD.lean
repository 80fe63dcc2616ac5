/- Part 4 of what the law LawRingOpens needs. No condition but those each theorem states. -/
import Derived.Deep.MidRow
import Derived.Laws.Externs
import Derived.Laws.IdiomCopy
import Derived.Laws.ResultCell
import Derived.Lib.AppendZerosOnto
import Derived.Lib.MakeNoZero
import Derived.Test.YtlocplkjokoknaaGreatPkLawRingOpensC
/- Check of a ring's members. No condition but those each theorem states. -/
namespace Go.Proofs.YtlocplkjokoknaaGreat
set_option linter.unusedVariables false
set_option linter.unusedSimpArgs false
open Go.RowKit
attribute [local go_sem ↓] Go.wp_at_zero Go.wp_at_succ

/-- 'xs[:m]' of a slice of whatever elements. -/
theorem cut_toK {P : Program} (t e : TypeId) {i : TypeInfo} (ht : P.underlying t = some (.slice e)) (hi : P.info? e = some i) (A : Option Addr) (n c m : Nat) (hm : m ≤ c) (W : World) :
    (Instr.slice t (.slice A n c) none (some (.int .i64 (m : Int))) none).run P W = .ok (.slice A m c) W := by
  have hel : P.elem t = e := by simp [Program.elem, ht]
  have hu : P.underlying t = some (.slice (P.elem t)) := by rw [hel]; exact ht
  rw [run_slice_h W t A n c hu .i64 (m : Int) (Int.natCast_nonneg _) (by omega), hel]
  simp only [sizeOf, typeInfo, hi, sliced, Result.andThen]
  rcases A with _ | ⟨b, o, sp⟩
  · simp [Sem.run_pure, hi, Result.andThen]
  · simp [Sem.run_pure, hi, Result.andThen, Addr.add]
    try (cases sp <;> simp)
theorem run_cut_toK {P : Program} {o : Oper} {a : Act} (ty : TypeId) (x h : Operand) (ho : o.op = .slice ty x none (some h) none) (e : TypeId) {i : TypeInfo} (ht : P.underlying ty = some (.slice e)) (hi : P.info? e = some i)
    (A : Option Addr) (n c m : Nat) (hx : a.eval x = .slice A n c) (hh : a.eval h = .int .i64 (m : Int)) (hm : m ≤ c) (W : World) : (execOp a.eval o).run P W = .ok (.value (.slice A m c)) W := by
  unfold execOp
  simp only [ho, hx, Option.map_some, Option.map_none, hh, Instr.sliceAt, Sem.run_bind, Sem.run_pure, run_underlying ht, Result.andThen_ok, cut_toK ty e ht hi A n c m hm W, Result.andThen_ok]
/-- May this one stand behind those ahead of it? -/
def okAt (l : List Mem) (i : Nat) (m : Mem) : Bool := decide (1 ≤ m.n) && decide (m.n ≤ 255) && !((l.take i).any (sameM m))
/-- May all, from this one on? -/
def okFrom (l : List Mem) (i : Nat) : Bool := (List.range l.length).all fun j => decide (j < i) || match l[j]? with | some m => okAt l j m | none => true
def checkL (l : List Mem) : Bool := decide (l.length ≤ 8) && l.any (·.o) && okFrom l 0
theorem okFrom_step {l : List Mem} {i : Nat} {m : Mem} (h : l[i]? = some m) : okFrom l i = (okAt l i m && okFrom l (i + 1)) := by
  have hi : i < l.length := (List.getElem?_eq_some_iff.1 h).1
  apply Bool.eq_iff_iff.2
  simp only [okFrom, Bool.and_eq_true, List.all_eq_true, List.mem_range, Bool.or_eq_true, decide_eq_true_eq]
  constructor
  · intro hh
    refine ⟨?_, fun j hj => ?_⟩
    · have := hh i hi
      rw [h] at this
      simpa using this
    · rcases hh j hj with h1 | h1
      · exact .inl (by omega)
      · exact .inr h1
  · rintro ⟨h1, hh⟩ j hj
    rcases hh j hj with h2 | h2
    · by_cases e : j = i
      · subst e
        rw [h]
        exact .inr h1
      · exact .inl (by omega)
    · exact .inr h2
theorem okFrom_end (l : List Mem) : okFrom l l.length = true := by
  simp only [okFrom, List.all_eq_true, List.mem_range, Bool.or_eq_true, decide_eq_true_eq]
  exact fun j hj => .inl hj
/-- What Check tells. -/
def chk (l : List Mem) : Int := if checkL l then 0 else 2
set_option maxRecDepth 100000 in
set_option maxHeartbeats 2000000 in
theorem check_any (w : World) (A : Option Addr) (c : Nat) (zs : List Mem) (R : RdM w A zs) (hc : zs.length ≤ c) (hz : zs.length ≤ 1000) :
    Calls Tryz.prog 10 #[.slice A zs.length c] w fun e w' => e = .returned (.int .i64 (chk zs)) ∧ Below w.heap.size w w' := by
  have HR := Lib.hid R
  have SO := Lib.hid (some_owns w A c zs R (by omega))
  obtain ⟨q, hq⟩ : ∃ q, q = zs.length := ⟨_, rfl⟩
  rw [← hq] at SO ⊢
  have Q1 := Lib.hid hq.symm
  have QC := Lib.hid (show q ≤ c by omega)
  have b0 : (q : Int) ≤ 1000 := by omega
  clear R hq hz hc
  go_enter Tryz.func10, Tryz.ntmps10
  by_cases h8 : 8 < q
  · have hD : decide ((q : Int) > 8) = true := by simp; omega
    have CE := Lib.hid (show checkL zs = false by simp only [checkL, Bool.and_eq_false_imp]; intro h; simp at h; rw [Q1.out] at h; omega)
    go_wp2_with fail
    go_ret
    exact ⟨by rw [chk, CE.out]; rfl, Below.refl _ _⟩
  · have hD : decide ((q : Int) > 8) = false := by simp; omega
    have Q8 := Lib.hid (Nat.le_of_not_lt h8)
    clear h8
    go_wp2_with fail
    refine SO.out.mono ?_
    obtain ⟨ow, how⟩ : ∃ ow : Bool, ow = zs.any (·.o) := ⟨_, rfl⟩
    rw [← how]
    have OW := Lib.hid how
    clear how
    rintro e w1 ⟨rfl, hb⟩
    have B1 := Lib.hid hb
    clear hb SO
    rcases ow with _ | _
    · have CE := Lib.hid (show checkL zs = false by simp only [checkL, ← OW.out]; simp)
      go_wp2_with fail
      go_ret
      exact ⟨by rw [chk, CE.out]; rfl, B1.out⟩
    · have CE := Lib.hid (show checkL zs = okFrom zs 0 by simp only [checkL, ← OW.out, Bool.and_true]; rw [decide_eq_true (by rw [Q1.out]; exact Q8.out)]; rfl)
      go_wp2_with fail
      go_loopw [15] (fun i wr => ∃ j : Nat, j ≤ q ∧ i = .int .i64 (j : Int) ∧ checkL zs = okFrom zs j ∧ Below w.heap.size w wr) (fun i _ => q - (intOf i).toNat)
      case atStart => exact ⟨0, Nat.zero_le _, rfl, CE.out, B1.out⟩
      case round =>
        obtain ⟨j, hj, rfl, hno, hb⟩ := hrel
        have J := Lib.hid hj
        have NO := Lib.hid hno
        have BW := Lib.hid hb
        clear hj hno hb CE
        obtain ⟨wp, rfl⟩ : ∃ wp : World, wp = wr := ⟨_, rfl⟩
        by_cases hlt : j < q
        · have hD : decide ((j : Int) < (q : Int)) = true := by simp; omega
          obtain ⟨z, bz, oz, hz, hok, hA, hrz⟩ := HR.out.at (show j < zs.length by rw [Q1.out]; exact hlt)
          obtain ⟨cs, hcs⟩ : ∃ cs, cs = RowM z := ⟨_, rfl⟩
          have ZE := Lib.hid hz
          have OK := Lib.hid hok
          have AE := Lib.hid hA
          have JQ := Lib.hid hlt
          have CE := Lib.hid hcs
          have RZ := Lib.hid (show wp.rangeAt bz (oz + j * 34) cs by rw [hcs]; exact rangeAt_keep hrz BW.out)
          have CL := Lib.hid (show (Tryz.prog.info? 63).map (·.size) = some cs.length by rw [hcs, RowM_length hok]; exact info_mem)
          have SZ := Lib.hid (show (34 : Nat) = cs.toArray.size by rw [List.size_toArray, hcs, RowM_length hok])
          have CL2 := Lib.hid (show (Tryz.prog.info? 63).map (·.size) = some cs.toArray.size by rw [List.size_toArray]; exact CL.out)
          have CO := Lib.hid (show cs.toArray.all (·.oneCell') = true by rw [hcs]; exact rowM_one z)
          have ST := Lib.hid (okFrom_step hz)
          clear hz hok hA hrz hlt hcs
          go_upto_region 5 with fail
          refine wp_region_list ?_
          simp only [List.toList_toArray]
          refine wpList_val (v := ?_) (by rfl) ?_ ?_
          rotate_left
          · go_simp
            with_reducible rfl
          simp only [Act.put, List.setIfInBounds_toArray, List.set_cons_zero, List.set_cons_succ]
          refine wpList_val (by rfl) (run_iaddr_slk 23 (.tmp 13) (.tmp 15) rfl 63 Tryz.underlying23 34 info_mem bz oz q c j JQ.out .i64 _ rfl (by rw [← AE.out]; rfl) rfl _) ?_
          simp only [Act.put, List.setIfInBounds_toArray, List.set_cons_zero, List.set_cons_succ]
          refine wpList_val (by rfl) (run_load_range 63 (.tmp 18) rfl bz (oz + j * 34) rfl cs RZ.out Tryz.underlying63 rfl CL.out) ?_
          simp only [Act.put, List.setIfInBounds_toArray, List.set_cons_zero, List.set_cons_succ]
          go_upto_region 6 with (refine wpList_store_new rfl rfl 63 (.tmp 4) (.tmp 19) rfl cs.toArray rfl rfl CL2.out SZ.out CO.out ?_)
          generalize hM : Array.size (World.heap wp) = M
          generalize hw7 : World.alloc wp _ = w7
          have B7 := Lib.hid (show Below wp.heap.size wp w7 by rw [← hw7]; exact below_new _ _)
          have R7 := Lib.hid (show w7.heap[M]? = some (.cells cs.toArray 63 (0, 0)) by rw [← hw7]; exact ha_new _ _ _ hM.symm)
          have BW7 := Lib.hid (BW.out.trans (B7.out.mono BW.out.size))
          clear hM hw7
          have CN := Lib.hid (row_cell R7.out 0 (show cs.toArray[0]? = some (.int .i64 z.n) by rw [CE.out]; rfl))
          refine wp_region_list ?_
          simp only [List.toList_toArray]
          refine wpList_val (v := ?_) (by rfl) ?_ ?_
          rotate_left
          · go_simp
            with_reducible rfl
          simp only [Act.put, List.setIfInBounds_toArray, List.set_cons_zero, List.set_cons_succ]
          refine wpList_val (by rfl) (run_cell 3 (.tmp 20) rfl _ Tryz.underlying3 rfl rfl CN.out) ?_
          simp only [Act.put, List.setIfInBounds_toArray, List.set_cons_zero, List.set_cons_succ]
          by_cases h1 : z.n < 1
          · have hD1 : decide (z.n < 1) = true := by simpa using h1
            have CF := Lib.hid (show checkL zs = false by rw [NO.out, ST.out, okAt, decide_eq_false (by omega)]; rfl)
            go_wp2_with fail
            go_ret
            exact ⟨by rw [chk, CF.out]; rfl, BW7.out⟩
          · have hD1 : decide (z.n < 1) = false := by simpa using h1
            refine wpList_val (v := ?_) (by rfl) ?_ ?_
            rotate_left
            · go_simp
              with_reducible rfl
            simp only [Act.put, List.setIfInBounds_toArray, List.set_cons_zero, List.set_cons_succ]
            refine wpList_val (v := ?_) (by rfl) ?_ ?_
            rotate_left
            · go_simp
              with_reducible rfl
            simp only [Act.put, List.setIfInBounds_toArray, List.set_cons_zero, List.set_cons_succ]
            refine wpList_valg (v := ?_) (by rfl) ?_ ?_
            rotate_left
            · go_simp
              with_reducible rfl
            simp only [Act.put, List.setIfInBounds_toArray, List.set_cons_zero, List.set_cons_succ]
            refine wpList_valg (by rfl) (run_cell 3 (.tmp 24) rfl _ Tryz.underlying3 rfl rfl CN.out) ?_
            simp only [Act.put, List.setIfInBounds_toArray, List.set_cons_zero, List.set_cons_succ]
            by_cases h2 : z.n > 255
            · have hD2 : decide (z.n > 255) = true := by simpa using h2
              have CF := Lib.hid (show checkL zs = false by rw [NO.out, ST.out, okAt, decide_eq_false (p := z.n ≤ 255) (by omega)]; simp)
              go_wp2_with fail
              go_ret
              exact ⟨by rw [chk, CF.out]; rfl, BW7.out⟩
            · have hD2 : decide (z.n > 255) = false := by simpa using h2
              refine wpList_valg (v := ?_) (by rfl) ?_ ?_
              rotate_left
              · go_simp
                with_reducible rfl
              simp only [Act.put, List.setIfInBounds_toArray, List.set_cons_zero, List.set_cons_succ]
              refine wpList_valg (v := ?_) (by rfl) ?_ ?_
              rotate_left
              · go_simp
                with_reducible rfl
              simp only [Act.put, List.setIfInBounds_toArray, List.set_cons_zero, List.set_cons_succ]
              refine wpList_valg (v := ?_) (by rfl) ?_ ?_
              rotate_left
              · go_simp
                with_reducible rfl
              simp only [Act.put, List.setIfInBounds_toArray, List.set_cons_zero, List.set_cons_succ]
              refine wpList_valg (v := ?_) (by rfl) ?_ ?_
              rotate_left
              · go_simp
                with_reducible rfl
              simp only [Act.put, List.setIfInBounds_toArray, List.set_cons_zero, List.set_cons_succ]
              refine wpList_valg (v := ?_) (by rfl) ?_ ?_
              rotate_left
              · go_simp
                with_reducible rfl
              simp only [Act.put, List.setIfInBounds_toArray, List.set_cons_zero, List.set_cons_succ]
              refine wpList_valg (by rfl) (run_cut_toK 23 (.tmp 29) (.tmp 30) rfl 63 Tryz.underlying23 rfl A q c j rfl rfl (by have := JQ.out; have := QC.out; omega) _) ?_
              simp only [Act.put, List.setIfInBounds_toArray, List.set_cons_zero, List.set_cons_succ]
              refine wpList_valg (v := ?_) (by rfl) ?_ ?_
              rotate_left
              · go_simp
                with_reducible rfl
              simp only [Act.put, List.setIfInBounds_toArray, List.set_cons_zero, List.set_cons_succ]
              have TL : (zs.take j).length = j := by rw [List.length_take, Q1.out]; have := JQ.out; omega
              have SS := Lib.hid (some_same w7 A c (zs.take j) ((HR.out.keep BW7.out).take j) (by rw [TL]; have := JQ.out; omega) z OK.out M 63 (0, 0) (by rw [← CE.out]; exact R7.out))
              rw [TL] at SS
              clear TL
              obtain ⟨sx, hsx⟩ : ∃ sx : Bool, sx = (zs.take j).any (sameM z) := ⟨_, rfl⟩
              rw [← hsx] at SS
              have SX := Lib.hid hsx
              have OA := Lib.hid (show okAt zs j z = !sx by rw [okAt, ← hsx, decide_eq_true (by omega), decide_eq_true (by omega)]; rfl)
              clear hsx
              go_wp2_with fail
              refine SS.out.mono ?_
              clear SS
              rintro e w8 ⟨rfl, hb⟩
              have B8 := Lib.hid (BW7.out.trans (hb.mono BW7.out.size))
              clear hb
              rcases sx with _ | _
              · have NX := Lib.hid (show checkL zs = okFrom zs (j + 1) by rw [NO.out, ST.out, OA.out]; rfl)
                go_wp2_with fail
                go_roundw
                case rel => exact ⟨j + 1, by have := JQ.out; omega, by go_num, NX.out, B8.out⟩
                case measure => have := JQ.out; simp [intOf]; omega
              · have CF := Lib.hid (show checkL zs = false by rw [NO.out, ST.out, OA.out]; rfl)
                go_wp2_with fail
                go_ret
                exact ⟨by rw [chk, CF.out]; rfl, B8.out⟩
        · have hD : decide ((j : Int) < (q : Int)) = false := by simp; omega
          have CF := Lib.hid (show checkL zs = true by rw [NO.out, show j = zs.length by have := J.out; rw [Q1.out]; omega]; exact okFrom_end zs)
          go_wp2_with fail
          go_ret
          exact ⟨by rw [chk, CF.out]; rfl, BW.out⟩
end Go.Proofs.YtlocplkjokoknaaGreat

/- Keys of a ring: the text that is wrapped. No condition but those each theorem states. -/
namespace Go.Proofs.YtlocplkjokoknaaGreat
set_option linter.unusedVariables false
set_option linter.unusedSimpArgs false
open Go.RowKit
attribute [local go_sem ↓] Go.wp_at_zero Go.wp_at_succ

/-- What a member learns. -/
structure Kys where
  e : UInt64
  k : List UInt8
  o : List UInt8
  w : Bool
def RowK (y : Kys) : List Value := .int .u64 (y.e.toNat : Int) :: (B8 y.k ++ (B8 y.o ++ [.bool y.w]))
def OkK (y : Kys) : Prop := y.k.length = 32 ∧ y.o.length = 32
def z32 : List UInt8 := List.replicate 32 0
/-- The text of a wrapped key. -/
def textL (y : Kys) (o : Bool) : List UInt8 := beL 8 y.e.toNat ++ y.k ++ [if o then 1 else 0] ++ (if o then y.o else z32)
theorem RowK_length {y : Kys} (h : OkK y) : (RowK y).length = 66 := by simp [RowK, B8_length, h.1, h.2]
theorem info_kys : (Tryz.prog.info? 40).map (·.size) = some 66 := by kernel_rfl
theorem rowK_one (y : Kys) : (RowK y).toArray.all (·.oneCell') = true := all_oneCell_toArray (by
  intro v hv
  simp only [RowK, B8, List.mem_cons, List.mem_append, List.mem_map, List.mem_nil_iff, or_false] at hv
  rcases hv with rfl | ⟨x, _, rfl⟩ | ⟨x, _, rfl⟩ | rfl <;> rfl)
theorem rowK_w {y : Kys} (h : OkK y) : (RowK y).toArray[65]? = some (.bool y.w) := by
  rw [List.getElem?_toArray, RowK, List.getElem?_cons_succ, List.getElem?_append_right (by rw [B8_length, h.1]; omega), B8_length, h.1, List.getElem?_append_right (by rw [B8_length, h.2]; omega), B8_length, h.2]
  rfl
theorem rowK_setO {y : Kys} (h : OkK y) (o : List UInt8) (w : World) : (RowK y).toArray.toList.take 33 ++ (B8 o ++ (RowK y).toArray.toList.drop 65) = RowK { y with o := o } := by
  have h1 : RowK y = (.int .u64 (y.e.toNat : Int) :: B8 y.k) ++ (B8 y.o ++ [.bool y.w]) := rfl
  have l1 : (Value.int .u64 (y.e.toNat : Int) :: B8 y.k).length = 33 := by simp [B8_length, h.1]
  have l2 : ((Value.int .u64 (y.e.toNat : Int) :: B8 y.k) ++ B8 y.o).length = 65 := by simp [B8_length, h.1, h.2]
  show (RowK y).take 33 ++ (B8 o ++ (RowK y).drop 65) = _
  have l3 : ((Value.int .u64 (y.e.toNat : Int) :: B8 y.k) ++ (B8 y.o ++ [Value.bool y.w])).drop 65 = [Value.bool y.w] := by rw [← List.append_assoc, List.drop_left' l2]
  rw [h1, List.take_left' l1, l3]
  rfl
theorem rowK_setK {y : Kys} (h : OkK y) (k : List UInt8) (w : World) : (RowK y).toArray.toList.take 1 ++ (B8 k ++ (RowK y).toArray.toList.drop 33) = RowK { y with k := k } := by
  have h1 : RowK y = (.int .u64 (y.e.toNat : Int) :: B8 y.k) ++ (B8 y.o ++ [.bool y.w]) := rfl
  have l1 : (Value.int .u64 (y.e.toNat : Int) :: B8 y.k).length = 33 := by simp [B8_length, h.1]
  show (RowK y).take 1 ++ (B8 k ++ (RowK y).drop 33) = _
  rw [h1, List.drop_left' l1]
  rfl
theorem rangeK_k {W : World} {b o : Nat} {y : Kys} (h : W.rangeAt b o (RowK y)) : W.rangeAt b (o + 1) (B8 y.k) :=
  range_init (range_sub h 1 (x := [.int .u64 (y.e.toNat : Int)]) (y := B8 y.k ++ (B8 y.o ++ [.bool y.w])) rfl rfl) rfl
theorem rangeK_o {W : World} {b o : Nat} {y : Kys} (h : W.rangeAt b o (RowK y)) (hk : y.k.length = 32) : W.rangeAt b (o + 33) (B8 y.o) :=
  range_init (range_sub h 33 (x := .int .u64 (y.e.toNat : Int) :: B8 y.k) (y := B8 y.o ++ [.bool y.w]) rfl (by simp [B8_length, hk])) rfl
theorem RdB.range {W : World} {g off : Nat} {l : List UInt8} (h : W.rangeAt g off (B8 l)) : RdB W (some ⟨g, off, none⟩) l := by
  intro j hj
  refine ⟨g, off, rfl, h j _ ?_⟩
  rw [B8, List.getElem?_map, List.getElem?_eq_getElem hj, List.getD_eq_getElem?_getD, List.getElem?_eq_getElem hj]
  rfl
/-- 'x[:]' of an array in a block. -/
theorem run_arr_off {P : Program} {o : Oper} {a : Act} (ty : TypeId) (x : Operand) (ho : o.op = .slice ty x none none none) (n e : Nat) (ht : P.underlying ty = some (.array n e)) {i : TypeInfo} (hi : P.info? e = some i)
    (g off : Nat) (hx : a.eval x = .pointer (some ⟨g, off, none⟩)) (W : World) : (execOp a.eval o).run P W = .ok (.value (.slice (some ⟨g, off, none⟩) n n)) W := by
  unfold execOp
  simp only [ho, hx, Option.map_none, Instr.sliceAt, Sem.run_bind, Sem.run_pure, run_underlying ht, Result.andThen_ok, Instr.sureAddr, Instr.sliceBounds, sizeOf, typeInfo, Addr.add]
  simp [hi]
theorem textL_length {y : Kys} (h : OkK y) (o : Bool) : (textL y o).length = 73 := by
  cases o <;> simp [textL, z32, beL_length, h.1, h.2]
theorem grown_below_on {w W W' : World} {q : Nat} (h : Below w.heap.size w W) (hg : W.grownBy W' (some q)) (hq : w.heap.size ≤ q) : Below w.heap.size w W' := h.trans (grown_below hg h.size (fun k e => by cases e; exact hq))
set_option maxRecDepth 100000 in
set_option maxHeartbeats 2000000 in
theorem text_any (w : World) (y : Kys) (hy : OkK y) (o : Bool) : Calls Tryz.prog 52 #[.agg (RowK y).toArray, .bool o] w fun e w' => ∃ v, e = .returned v ∧ OwnB w' w.heap.size v (textL y o) ∧ Below w.heap.size w w' := by
  have TB := Lib.hid (show ByteT Tryz.prog from ⟨Tryz.underlying22, by kernel_rfl⟩)
  obtain ⟨cs, hcs⟩ : ∃ cs, cs = RowK y := ⟨_, rfl⟩
  rw [← hcs]
  have CE := Lib.hid hcs
  have HY := Lib.hid hy
  have CL := Lib.hid (show (Tryz.prog.info? 40).map (·.size) = some cs.toArray.size by rw [hcs]; simp only [List.size_toArray, RowK_length hy]; exact info_kys)
  clear hcs hy
  go_enter Tryz.func52, Tryz.ntmps52
  go_upto_region 1 with fail
  generalize hM : Array.size (World.heap w) = M
  generalize hw1 : World.alloc w _ = w1
  have B1 := Lib.hid (show Below w.heap.size w w1 by rw [← hw1]; exact below_new _ _)
  have R1 := Lib.hid (show w1.heap[M]? = some (.cells cs.toArray 40 (0, 0)) by rw [← hw1]; exact ha_new _ _ _ hM.symm)
  have RG := Lib.hid (show w1.rangeAt M 0 (RowK y) by rw [← CE.out]; exact range_rowL R1.out)
  have RK := Lib.hid (show RdB w1 (some ⟨M, 1, none⟩) y.k by have := RdB.range (rangeK_k RG.out); rwa [Nat.zero_add] at this)
  have Z := Lib.hid (show Below w1.heap.size w1 w1.drew from (Below.refl _ _).drew)
  have CM := Lib.hid hM
  clear hM hw1
  refine wp_region_road (fun W => Below w1.heap.size w1 W) [(true, 0), (true, 1), (true, 3), (true, 4), (false, 2), (false, 5), (true, 6)] (by kernel_rfl) (by kernel_rfl) (fun _ _ d _ _ h => by cases d <;> exact h) ?_
  simp only [List.filterMap_cons, List.filterMap_nil, List.getElem?_toArray, List.getElem?_cons_zero, List.getElem?_cons_succ, Option.map_some]
  refine planG_q (v := ?_) (by rfl) (Z.out) ?_ ?_
  rotate_left
  · intro W hW
    go_simp
    with_reducible rfl
  simp only [Act.put, List.setIfInBounds_toArray, List.set_cons_zero, List.set_cons_succ]
  refine planG_q (by rfl) (Z.out) (fun W hW => run_cell 36 (.tmp 6) rfl _ Tryz.underlying36 rfl rfl (row_cell (below_block hW (row_lt R1.out) R1.out) 0 (show cs.toArray[0]? = some (.int .u64 (y.e.toNat : Int)) by rw [CE.out]; rfl))) ?_
  simp only [Act.put, List.setIfInBounds_toArray, List.set_cons_zero, List.set_cons_succ]
  refine planG_q (v := ?_) (by rfl) (Z.out) ?_ ?_
  rotate_left
  · intro W hW
    go_simp
    with_reducible rfl
  simp only [Act.put, List.setIfInBounds_toArray, List.set_cons_zero, List.set_cons_succ]
  refine planG_q (by rfl) (Z.out) (fun W hW => run_arr_off 38 (.tmp 9) rfl 32 5 Tryz.underlying38 rfl M 1 rfl W) ?_
  simp only [Act.put, List.setIfInBounds_toArray, List.set_cons_zero, List.set_cons_succ]
  refine planG_t (by rfl) (fun K hK => ?_)
  go_simp
  refine (put_any w1.drew none 0 0 [] y.e 8 (by omega) rfl (RdB.nil _ _) (by omega)).mono ?_
  rintro e w2 ⟨v2, rfl, ho, hb⟩
  have O := Lib.hid (show OwnB w2 w1.heap.size v2 (beL 8 y.e.toNat) from ho)
  have Z := Lib.hid (show Below w1.heap.size w1 w2 from Z.out.trans (hb.mono Z.out.size))
  clear ho hb
  refine hK.out _ _ (Z.out) ?_
  clear hK K
  refine planG_t (by rfl) (fun K hK => ?_)
  refine app_wp TB.out (.tmp 8) (.tmp 10) rfl w1.heap.size v2 (beL 8 y.e.toNat) y.k (some ⟨M, 1, none⟩) 32 32 rfl rfl HY.out.1 O.out (RK.out.keep Z.out) Z.out.size (by rw [beL_length]; omega) ?_
  intro v3 w3 ho hg _
  have Z := Lib.hid (below_own Z.out O.out hg)
  have O := Lib.hid ho
  clear ho hg
  refine hK.out _ _ (Z.out) ?_
  clear hK K
  refine planG_q (v := ?_) (by rfl) (Z.out) ?_ ?_
  rotate_left
  · intro W hW
    go_simp
    with_reducible rfl
  simp only [Act.put, List.setIfInBounds_toArray, List.set_cons_zero, List.set_cons_succ]
  refine planG_nil ?_
  go_upto_region 2 with fail
  refine wp_region_list ?_
  simp only [List.toList_toArray]
  refine wpList_val (v := ?_) (by rfl) ?_ ?_
  rotate_left
  · go_simp
    with_reducible rfl
  simp only [Act.put, List.setIfInBounds_toArray, List.set_cons_zero, List.set_cons_succ]
  refine wpList_val (v := ?_) (by rfl) ?_ ?_
  rotate_left
  · go_simp
    with_reducible rfl
  simp only [Act.put, List.setIfInBounds_toArray, List.set_cons_zero, List.set_cons_succ]
  refine wpList_op (by rfl) (fun K hK => ?_)
  go_simp
  refine (flag_any w3 o).mono ?_
  obtain ⟨fl, hfl⟩ : ∃ fl : UInt8, fl = if o then 1 else 0 := ⟨_, rfl⟩
  rw [← hfl]
  have FL := Lib.hid hfl
  clear hfl
  rintro e wd ⟨rfl, hw⟩
  rw [hw]
  clear hw wd
  refine hK.out _ _ ?_
  clear hK K
  refine wpList_op (by rfl) (fun K hK => ?_)
  go_simp
  generalize hB : Array.size (World.heap _) = N9
  generalize hw : World.alloc _ _ = wn
  obtain ⟨hr, hs, hb⟩ := built_one (x := fl) hw hB Z.out
  have R9 := Lib.hid hr
  have Z := Lib.hid hs
  have O := Lib.hid (O.out.below hb)
  clear hB hw hb hr hs
  refine hK.out _ _ ?_
  clear hK K
  refine wpList_op (by rfl) (fun K hK => ?_)
  refine app_wp TB.out (.tmp 12) (.tmp 15) rfl w1.heap.size v3 _ [fl] (some ⟨N9, 0, none⟩) 1 1 rfl rfl rfl O.out R9.out Z.out.size (by simp [beL_length, HY.out.1]) ?_
  intro v4 w4 ho hg _
  have Z := Lib.hid (below_own Z.out O.out hg)
  have O := Lib.hid ho
  clear ho hg R9
  refine hK.out _ _ ?_
  clear hK K
  simp only [Act.put, List.setIfInBounds_toArray, List.set_cons_zero, List.set_cons_succ]
  have R4 := Lib.hid (below_block Z.out (row_lt R1.out) R1.out)
  rcases o with _ | _
  · have FE := Lib.hid (show fl = 0 from FL.out)
    have SZ := Lib.hid (show cs.toArray.size = 66 by rw [CE.out, List.size_toArray, RowK_length HY.out])
    go_upto_region 4 with fail
    refine wp_region_list ?_
    simp only [List.toList_toArray]
    refine wpList_val (v := ?_) (by rfl) ?_ ?_
    rotate_left
    · go_simp
      with_reducible rfl
    simp only [Act.put, List.setIfInBounds_toArray, List.set_cons_zero, List.set_cons_succ]
    refine wpList_val (v := ?_) (by rfl) ?_ ?_
    rotate_left
    · go_simp
      with_reducible rfl
    simp only [Act.put, List.setIfInBounds_toArray, List.set_cons_zero, List.set_cons_succ]
    refine storeM_list rfl 38 (.tmp 20) (.tmp 19) rfl M 33 (W8 z32) rfl (by rw [show W8 z32 = _ from zero32]; rfl) cs.toArray 40 R4.out (by kernel_rfl) (by rw [SZ.out, W8_size]; decide) (W8_one _) ?_
    intro w5 hr hg hs
    have R5 := Lib.hid (show w5.heap[M]? = some (.cells (RowK { y with o := z32 }).toArray 40 (0, 0)) by
      rw [hr, CE.out, W8_size, show (33 + z32.length) = 65 from rfl, W8_B8]
      congr 3
      exact rowK_setO HY.out z32 w)
    have ML := Lib.hid (row_lt R1.out)
    have MG := Lib.hid (show w.heap.size ≤ M by have := CM.out; omega)
    have O := Lib.hid (show OwnB w5 w.heap.size v4 _ from (O.out.grown hg (by
      rcases hq : v4.ownBlock with _ | g
      · exact .inl rfl
      · exact .inr fun e => by have h1 := (O.out.lt g hq).1; have := Option.some.inj e; have := ML.out; omega)).mono B1.out.size)
    have Z := Lib.hid (show Below w.heap.size w w5 from grown_below_on (B1.out.trans (Z.out.mono B1.out.size)) hg MG.out)
    have RO := Lib.hid (show RdB w5 (some ⟨M, 33, none⟩) z32 by have := RdB.range (rangeK_o (o := 0) (W := w5) (y := { y with o := z32 }) (range_rowL R5.out) HY.out.1); rwa [Nat.zero_add] at this)
    clear hr hg hs
    go_upto_region 5 with fail
    refine wp_region_list ?_
    simp only [List.toList_toArray]
    refine wpList_val (v := ?_) (by rfl) ?_ ?_
    rotate_left
    · go_simp
      with_reducible rfl
    simp only [Act.put, List.setIfInBounds_toArray, List.set_cons_zero, List.set_cons_succ]
    refine wpList_val (v := ?_) (by rfl) ?_ ?_
    rotate_left
    · go_simp
      with_reducible rfl
    simp only [Act.put, List.setIfInBounds_toArray, List.set_cons_zero, List.set_cons_succ]
    refine wpList_val (by rfl) (run_arr_off 38 (.tmp 22) rfl 32 5 Tryz.underlying38 rfl M 33 rfl _) ?_
    simp only [Act.put, List.setIfInBounds_toArray, List.set_cons_zero, List.set_cons_succ]
    refine wpList_op (by rfl) (fun K hK => ?_)
    refine app_wp TB.out (.tmp 21) (.tmp 23) rfl w.heap.size v4 _ z32 (some ⟨M, 33, none⟩) 32 32 rfl rfl rfl O.out RO.out Z.out.size (by simp [beL_length, HY.out.1]) ?_
    intro v5 w6 ho hg _
    have Z := Lib.hid (below_own Z.out O.out hg)
    have O := Lib.hid ho
    clear ho hg
    refine hK.out _ _ ?_
    clear hK K
    simp only [Act.put, List.setIfInBounds_toArray, List.set_cons_zero, List.set_cons_succ]
    go_wp2_with fail
    go_ret
    exact ⟨_, rfl, by have := O.out; rw [FE.out] at this; exact this, Z.out⟩
  · have FE := Lib.hid (show fl = 1 from FL.out)
    have RO := Lib.hid (show RdB w4 (some ⟨M, 33, none⟩) y.o by have := RdB.range (rangeK_o (o := 0) (W := w4) (by rw [← CE.out]; exact range_rowL R4.out) HY.out.1); rwa [Nat.zero_add] at this)
    go_upto_region 5 with fail
    refine wp_region_list ?_
    simp only [List.toList_toArray]
    refine wpList_val (v := ?_) (by rfl) ?_ ?_
    rotate_left
    · go_simp
      with_reducible rfl
    simp only [Act.put, List.setIfInBounds_toArray, List.set_cons_zero, List.set_cons_succ]
    refine wpList_val (v := ?_) (by rfl) ?_ ?_
    rotate_left
    · go_simp
      with_reducible rfl
    simp only [Act.put, List.setIfInBounds_toArray, List.set_cons_zero, List.set_cons_succ]
    refine wpList_val (by rfl) (run_arr_off 38 (.tmp 22) rfl 32 5 Tryz.underlying38 rfl M 33 rfl _) ?_
    simp only [Act.put, List.setIfInBounds_toArray, List.set_cons_zero, List.set_cons_succ]
    refine wpList_op (by rfl) (fun K hK => ?_)
    refine app_wp TB.out (.tmp 21) (.tmp 23) rfl w1.heap.size v4 _ y.o (some ⟨M, 33, none⟩) 32 32 rfl rfl HY.out.2 O.out RO.out Z.out.size (by simp [beL_length, HY.out.1]) ?_
    intro v5 w5 ho hg _
    have Z := Lib.hid (below_own Z.out O.out hg)
    have O := Lib.hid ho
    clear ho hg
    refine hK.out _ _ ?_
    clear hK K
    simp only [Act.put, List.setIfInBounds_toArray, List.set_cons_zero, List.set_cons_succ]
    go_wp2_with fail
    go_ret
    exact ⟨_, rfl, by have := O.out.mono B1.out.size; rw [FE.out] at this; exact this, B1.out.trans (Z.out.mono B1.out.size)⟩
end Go.Proofs.YtlocplkjokoknaaGreat

/- 'append(s, make([]byte, k)...)': zeros behind a row of the call's own. No condition but those each theorem states. -/
namespace Go.Proofs.YtlocplkjokoknaaGreat
set_option linter.unusedVariables false
set_option linter.unusedSimpArgs false
open Go.RowKit

theorem zero_cells (k : Nat) : Builtin.zeroCells (Value.int .u8 0).cells k = (B8 (List.replicate k 0)).toArray := by
  apply Array.ext
  · rw [size_zeroCells]
    simp [B8_length, Value.cells]
  · intro i h1 h2
    simp [Builtin.zeroCells, Value.cells, B8, Nat.mod_one]
theorem run_app_zeros {P : Program} (T : ByteT P) (hint : P.underlying 3 = some (.int .i64)) (ty : TypeId) (W : World) (base : Nat) (v : Value) (l : List UInt8) (k : Nat) (HO : OwnB W base v l) (hbase : base ≤ W.heap.size) (hl : l.length + k ≤ 140737488355328) :
    ∃ v1 w1, (Builtin.append_ #[22, 3] ty #[v, .int .i64 (k : Int)]).run P W = .ok v1 w1 ∧ OwnB w1 base v1 (l ++ List.replicate k 0) ∧ W.grownBy w1 v.ownBlock ∧ (v1.ownBlock = v.ownBlock ∨ v1.ownBlock = some W.heap.size) := by
  obtain ⟨i0, hi, hzz⟩ := Option.map_eq_some_iff.1 T.hinfo
  simp only [Prod.mk.injEq] at hzz
  obtain ⟨hz0, hz1, hz2⟩ := hzz
  have ht := T.ht
  have hw : IntKind.i64.wrap (k : Int) = k := by rw [IntKind.wrap_i64]; omega
  have hneg : ¬ ((k : Int) < 0) := by omega
  have h48i : ¬ (281474976710656 < (k : Int) * (i0.bytes : Int)) := by rw [hz2]; omega
  have hlen : (B8 (l ++ List.replicate k 0)).length = (l.length + k) * 1 := by rw [B8_length, List.length_append, List.length_replicate, Nat.mul_one]
  -- a new row
  have grows : ∀ (A : Option Addr) (cap : Nat), v = .slice A l.length cap → cap < l.length + k → (Builtin.firstCells i0.size l.length (.slice A l.length cap)).run P W.drew = .ok (B8 l).toArray W.drew →
      ∃ v1 w1, (Builtin.append_ #[22, 3] ty #[v, .int .i64 (k : Int)]).run P W = .ok v1 w1 ∧ OwnB w1 base v1 (l ++ List.replicate k 0) ∧ W.grownBy w1 v.ownBlock ∧ (v1.ownBlock = v.ownBlock ∨ v1.ownBlock = some W.heap.size) := by
    intro A cap hv hg hold
    by_cases hk : k = 0
    · exfalso
      subst hk
      rcases HO.2 with ⟨e, hn⟩ | ⟨g, cap', cur, e, _, _, hnc, _⟩
      · rw [hv] at e; injection e with _ _ e3; omega
      · rw [hv] at e; injection e with _ _ e3; omega
    have hr := Lib.run_append_grow_zeros (P := P) W 22 3 ty 5 i0 (.int .u8 0) .i64 .i64 ht hint hi hz0 A l.length cap (B8 l) hold k (by omega) (by rw [hz1]; omega) hg (by omega) (by rw [hz2]; omega) (by
      have h1 := growslice_fits (by omega : cap < l.length + k) (show (l.length + k) * i0.bytes ≤ 140737488355328 by rw [hz2]; omega)
      omega)
    rw [← hv] at hr
    have hge := grownCap_ge W (l.length + k) cap 5
    have hcm : grownCap W (l.length + k) cap 5 ≤ maxLen := grownCap_le_maxLen W (l.length + k) cap 5 (by unfold maxLen; omega)
    refine ⟨_, _, hr, ?_, ⟨rfl, rfl, rfl, by simp, fun q hq _ => heap_alloc_old W.drew _ hq⟩, .inr rfl⟩
    rw [OwnB, List.length_append, List.length_replicate]
    refine ⟨hlen, .inr ⟨W.heap.size, _, _, rfl, hbase, heap_alloc_new W.drew _, hge, hcm, ?_, ?_⟩⟩
    · rw [zero_cells]
      simp only [Array.size_append, List.size_toArray, size_zeroCells, B8_length, List.length_replicate]
      simp only [Value.cells, List.size_toArray, List.length_cons, List.length_nil]
      omega
    · rw [zero_cells, B8_append]
      simp only [Array.toList_append]
      rw [List.take_append_of_le_length (by simp [B8_length]), List.take_of_length_le (by simp [B8_length])]
  rcases HO.2 with ⟨rfl, hn⟩ | ⟨g, cap, cur, rfl, hbg, hg, hnc, hcm, hcs, htake⟩
  · have hx : l = [] := List.eq_nil_of_length_eq_zero hn
    subst hx
    by_cases hk : k = 0
    · subst hk
      refine ⟨.slice none 0 0, W, ?_, by simpa using HO, World.grownBy.refl W _, .inl rfl⟩
      simp [Builtin.append_, run_underlying ht, run_underlying hint, sizeOf, typeInfo, hi, asInt, asIntOf, IntKind.wrap_i64]
    · exact grows none 0 rfl (by omega) (by rw [run_firstCells_none]; rfl)
  · by_cases hroom : l.length + k ≤ cap
    · have hfit : l.length + (B8 (List.replicate k 0)).length ≤ cur.size := by rw [B8_length, List.length_replicate, hcs]; omega
      have hst := run_storeCells_cells (P := P) g l.length (B8 (List.replicate k 0)) 0 W (fun j hj => by
        have : (cur[l.length + 0 + j]?).isSome = true := by simp; omega
        obtain ⟨u, hu⟩ := Option.isSome_iff_exists.1 this
        rw [row_cell hg (l.length + 0 + j) hu]; rfl) (fun j hj => row_free hg _) (B8_one _)
      have hsc := setCells_heap g 5 (B8 (List.replicate k 0)) l.length W cur hg hfit
      refine ⟨.slice (some ⟨g, 0, none⟩) (l.length + k) cap, W.setCells g l.length (B8 (List.replicate k 0)), ?_, ?_, setCells_grown g _ _ _, .inl rfl⟩
      · rcases Nat.eq_zero_or_pos k with hk | hk
        · subst hk
          simp [Builtin.append_, run_underlying ht, run_underlying hint, sizeOf, typeInfo, hi, asInt, asIntOf, IntKind.wrap_i64, hnc, storeCells, B8, World.setCells]
        · have hk0 : ¬ (k * i0.size = 0) := by rw [hz1]; omega
          have hz : Builtin.zeroCells (Value.int .u8 0).cells k = (B8 (List.replicate k 0)).toArray := zero_cells k
          simp [Builtin.append_, run_underlying ht, run_underlying hint, sizeOf, typeInfo, zeroValue, hi, hz0, asInt, asIntOf, hw, hneg, h48i, hk0, hroom, hz, Addr.add_lit, hz1]
          rw [if_neg (by omega)]
          have hst : (storeCells ⟨g, l.length, none⟩ (B8 (List.replicate k 0))).run P W = .ok () (W.setCells g l.length (B8 (List.replicate k 0))) := by simpa using hst
          rw [hst]
          rfl
      · rw [OwnB, List.length_append, List.length_replicate]
        refine ⟨hlen, .inr ⟨g, cap, _, rfl, hbg, hsc, hroom, hcm, ?_, ?_⟩⟩
        · simp only [List.size_toArray, List.length_append, List.length_take, List.length_drop, Array.length_toList]
          omega
        · have e1 : cur.toList.take l.length = B8 l := by simpa using htake
          rw [e1, B8_append]
          have e2 : (l.length + k) * 1 = (B8 l ++ B8 (List.replicate k 0)).length := by simp [B8_length]
          rw [← List.append_assoc, e2]
          exact List.take_left
    · exact grows (some ⟨g, 0, none⟩) cap rfl (by omega) (by
        rw [hz1]
        exact run_firstCells_some (P := P) W.drew 1 l.length ⟨g, 0, none⟩ l.length cap (B8 l) (by simp [B8_length]) (fun j u hj => HO.cells (g := g) rfl j u hj))
section
variable {P : Program} {o : Oper} {a : Act} {Q : Exit → Act → World → Prop} {K : Act → World → Prop}
theorem appz_wp (T : ByteT P) (hint : P.underlying 3 = some (.int .i64)) (s x : Operand) (ho : o.op = .call { callee := .builtin .append, args := #[s, x], argTypes := #[22, 3] }) {W : World}
    (base : Nat) (v : Value) (l : List UInt8) (k : Nat) (hs : a.eval s = v) (hx : a.eval x = .int .i64 (k : Int)) (HO : OwnB W base v l) (hbase : base ≤ W.heap.size) (hl : l.length + k ≤ 140737488355328)
    (h : ∀ v1 w1, OwnB w1 base v1 (l ++ List.replicate k 0) → W.grownBy w1 v.ownBlock → (v1.ownBlock = v.ownBlock ∨ v1.ownBlock = some W.heap.size) → K (a.put o.dst v1) w1) : o.wp P a W K Q := by
  obtain ⟨v1, w1, hr, h2, h3, h5⟩ := run_app_zeros T hint o.type W base v l k HO hbase hl
  unfold Oper.wp execOp
  simp only [ho, resolve, invoke, builtin, Sem.run_bind, Sem.run_pure, Result.andThen_ok, List.map_toArray, List.map_cons, List.map_nil, hs, hx, hr]
  exact h v1 w1 h2 h3 h5
end
end Go.Proofs.YtlocplkjokoknaaGreat

/- The members' text of a ring. No condition but those each theorem states. -/
namespace Go.Proofs.YtlocplkjokoknaaGreat
set_option linter.unusedVariables false
set_option linter.unusedSimpArgs false
open Go.RowKit
attribute [local go_sem ↓] Go.wp_at_zero Go.wp_at_succ

def numB (n : Int) : UInt8 := UInt8.ofNat n.toNat
def flagB (o : Bool) : UInt8 := if o then 1 else 0
def memL (z : Mem) : List UInt8 := [numB z.n, flagB z.o] ++ z.k
def dirL (l : List Mem) : List UInt8 := [numB l.length] ++ (l.map memL).flatten ++ List.replicate (273 - (1 + 34 * l.length)) 0
theorem numB_val {n : Int} (h0 : 0 ≤ n) (h1 : n ≤ 255) : IntKind.u8.wrap n = ((numB n).toNat : Int) := by
  rw [numB, UInt8.toNat_ofNat']
  simp only [IntKind.wrap, IntKind.signed, IntKind.bits]
  simp
  omega
theorem memL_length {z : Mem} (h : OkM z) : (memL z).length = 34 := by simp [memL, h.1]
theorem mems_length (l : List Mem) (h : ∀ z ∈ l, OkM z) : (l.map memL).flatten.length = 34 * l.length := by
  induction l with
  | nil => rfl
  | cons z l ih =>
    rw [List.map_cons, List.flatten_cons, List.length_append, memL_length (h z (by simp)), ih (fun y hy => h y (by simp [hy])), List.length_cons]
    omega
theorem dirL_length {l : List Mem} (h : ∀ z ∈ l, OkM z) (h8 : l.length ≤ 8) : (dirL l).length = 273 := by
  simp only [dirL, List.length_append, List.length_replicate, mems_length l h, List.length_cons, List.length_nil]
  omega
/-- A slice of one byte, built: it is the call's own. -/
theorem built_own {w W W' : World} {NB : Nat} {x : UInt8} (hw : W.alloc (.cells #[.int .u8 (x.toNat : Int)] 5) = W') (hB : W.heap.size = NB) (hb : Below w.heap.size w W) : OwnB W' w.heap.size (.slice (some ⟨NB, 0, none⟩) 1 1) [x] ∧ Below w.heap.size w W' ∧ Below W.heap.size W W' := by
  subst hw hB
  exact ⟨⟨by simp [B8], .inr ⟨W.heap.size, 1, _, rfl, hb.size, heap_alloc_new W _, by simp, by simp [maxLen], by simp, by simp [B8]⟩⟩, hb.alloc hb.size _, (Below.refl _ _).alloc (Nat.le_refl _) _⟩
/-- A slice of two bytes, built. -/
theorem built_two {w W W' : World} {NB : Nat} {x y : UInt8} (hw : W.alloc (.cells #[.int .u8 (x.toNat : Int), .int .u8 (y.toNat : Int)] 5) = W') (hB : W.heap.size = NB) (hb : Below w.heap.size w W) : RdB W' (some ⟨NB, 0, none⟩) [x, y] ∧ Below w.heap.size w W' ∧ Below W.heap.size W W' := by
  subst hw hB
  exact ⟨RdB.row (l := [x, y]) (ha_new _ _ _ rfl), hb.alloc hb.size _, (Below.refl _ _).alloc (Nat.le_refl _) _⟩
set_option maxRecDepth 100000 in
set_option maxHeartbeats 2000000 in
theorem dir_any (w : World) (A : Option Addr) (c : Nat) (zs : List Mem) (R : RdM w A zs) (h8 : zs.length ≤ 8) (hn : ∀ z ∈ zs, 0 ≤ z.n ∧ z.n ≤ 255) :
    Calls Tryz.prog 45 #[.slice A zs.length c] w fun e w' => ∃ v, e = .returned v ∧ OwnB w' w.heap.size v (dirL zs) ∧ Below w.heap.size w w' := by
  have TB := Lib.hid (show ByteT Tryz.prog from ⟨Tryz.underlying22, by kernel_rfl⟩)
  have HR := Lib.hid R
  have HN := Lib.hid hn
  obtain ⟨q, hq⟩ : ∃ q, q = zs.length := ⟨_, rfl⟩
  obtain ⟨d, hd⟩ : ∃ d, d = dirL zs := ⟨_, rfl⟩
  rw [← hq, ← hd]
  have DE := Lib.hid hd
  have Q1 := Lib.hid hq.symm
  have Q8 := Lib.hid (show q ≤ 8 by omega)
  have b0 : (q : Int) ≤ 8 := by omega
  have qw : IntKind.u8.wrap (q : Int) = ((numB (q : Int)).toNat : Int) := numB_val (by omega) (by omega)
  obtain ⟨n0, hn0⟩ : ∃ n0, n0 = numB (q : Int) := ⟨_, rfl⟩
  rw [← hn0] at qw
  have N0 := Lib.hid hn0
  clear R hn hq hd hn0
  go_enter Tryz.func45, Tryz.ntmps45
  go_upto_region 1 with fail
  refine wp_region_list ?_
  simp only [List.toList_toArray]
  refine wpList_val (v := ?_) (by rfl) ?_ ?_
  rotate_left
  · go_simp
    with_reducible rfl
  simp only [Act.put, List.setIfInBounds_toArray, List.set_cons_zero, List.set_cons_succ]
  refine wpList_val (v := ?_) (by rfl) ?_ ?_
  rotate_left
  · go_simp
    with_reducible rfl
  simp only [Act.put, List.setIfInBounds_toArray, List.set_cons_zero, List.set_cons_succ]
  refine wpList_val (v := ?_) (by rfl) ?_ ?_
  rotate_left
  · go_simp
    with_reducible rfl
  simp only [Act.put, List.setIfInBounds_toArray, List.set_cons_zero, List.set_cons_succ]
  refine wpList_op (by rfl) (fun K hK => ?_)
  go_simp
  generalize hB : Array.size (World.heap _) = N9
  generalize hw : World.alloc _ _ = wn
  obtain ⟨ho, hs, hb⟩ := built_own (x := n0) hw hB (Below.refl _ _)
  have O := Lib.hid ho
  have Z := Lib.hid hs
  clear hB hw hb ho hs
  refine hK.out _ _ ?_
  clear hK K
  go_wp2_with fail
  go_loopw [3, 12] (fun v i wr => ∃ j : Nat, j ≤ q ∧ i = .int .i64 (j : Int) ∧ OwnB wr w.heap.size v ([n0] ++ ((zs.take j).map memL).flatten) ∧ Below w.heap.size w wr) (fun _ i _ => q - (intOf i).toNat)
  case atStart => exact ⟨0, Nat.zero_le _, rfl, by simpa using O.out, Z.out⟩
  case round =>
    obtain ⟨j, hj, rfl, ho, hb⟩ := hrel
    have J := Lib.hid hj
    have O := Lib.hid ho
    have BW := Lib.hid hb
    clear hj ho hb
    obtain ⟨wp, rfl⟩ : ∃ wp : World, wp = wr := ⟨_, rfl⟩
    by_cases hlt : j < q
    · have hD : decide ((j : Int) < (q : Int)) = true := by simp; omega
      obtain ⟨z, bz, oz, hz, hok, hA, hrz⟩ := HR.out.at (show j < zs.length by rw [Q1.out]; exact hlt)
      obtain ⟨cs, hcs⟩ : ∃ cs, cs = RowM z := ⟨_, rfl⟩
      have hzm : z ∈ zs := List.mem_of_getElem? hz
      have zw : IntKind.u8.wrap z.n = ((numB z.n).toNat : Int) := numB_val (HN.out z hzm).1 (HN.out z hzm).2
      obtain ⟨nz, hnz⟩ : ∃ nz, nz = numB z.n := ⟨_, rfl⟩
      rw [← hnz] at zw
      have OK := Lib.hid hok
      have AE := Lib.hid hA
      have JQ := Lib.hid hlt
      have CE := Lib.hid hcs
      have RZ := Lib.hid (show wp.rangeAt bz (oz + j * 34) cs by rw [hcs]; exact rangeAt_keep hrz BW.out)
      have CL := Lib.hid (show (Tryz.prog.info? 63).map (·.size) = some cs.length by rw [hcs, RowM_length hok]; exact info_mem)
      have SZ := Lib.hid (show (34 : Nat) = cs.toArray.size by rw [List.size_toArray, hcs, RowM_length hok])
      have CL2 := Lib.hid (show (Tryz.prog.info? 63).map (·.size) = some cs.toArray.size by rw [List.size_toArray]; exact CL.out)
      have CO := Lib.hid (show cs.toArray.all (·.oneCell') = true by rw [hcs]; exact rowM_one z)
      have C0 := Lib.hid (show cs.toArray[0]? = some (.int .i64 z.n) by rw [hcs]; rfl)
      have C33 := Lib.hid (show cs.toArray[33]? = some (.bool z.o) by rw [hcs]; exact rowM_o hok.1)
      have TK := Lib.hid (show ((zs.take (j + 1)).map memL).flatten = ((zs.take j).map memL).flatten ++ ([nz, flagB z.o] ++ z.k) by rw [List.take_add_one, hz, hnz]; simp [memL])
      have LL := Lib.hid (show ([n0] ++ ((zs.take j).map memL).flatten).length ≤ 300 by
        have h1 := mems_length (zs.take j) (fun y hy => HR.out.ok y (List.mem_of_mem_take hy))
        rw [List.length_append, h1, List.length_take]; have := Q8.out; have := Q1.out; simp; omega)
      obtain ⟨L, hL⟩ : ∃ L, L = [n0] ++ ((zs.take j).map memL).flatten := ⟨_, rfl⟩
      rw [← hL] at O LL
      have LE := Lib.hid hL
      have NZ := Lib.hid hnz
      clear hz hok hA hrz hlt hcs hzm hL hnz
      go_upto_region 4 with fail
      refine wp_region_list ?_
      simp only [List.toList_toArray]
      refine wpList_val (by rfl) (run_iaddr_slk 23 (.tmp 10) (.tmp 12) rfl 63 Tryz.underlying23 34 info_mem bz oz q c j JQ.out .i64 _ rfl (by rw [← AE.out]; rfl) rfl _) ?_
      simp only [Act.put, List.setIfInBounds_toArray, List.set_cons_zero, List.set_cons_succ]
      refine wpList_val (by rfl) (run_load_range 63 (.tmp 14) rfl bz (oz + j * 34) rfl cs RZ.out Tryz.underlying63 rfl CL.out) ?_
      simp only [Act.put, List.setIfInBounds_toArray, List.set_cons_zero, List.set_cons_succ]
      go_upto_region 5 with (refine wpList_store_new rfl rfl 63 (.tmp 5) (.tmp 15) rfl cs.toArray rfl rfl CL2.out SZ.out CO.out ?_)
      generalize hM : Array.size (World.heap wp) = M
      generalize hw7 : World.alloc wp _ = w7
      have B7 := Lib.hid (show Below wp.heap.size wp w7 by rw [← hw7]; exact below_new _ _)
      have R7 := Lib.hid (show w7.drew.heap[M]? = some (.cells cs.toArray 63 (0, 0)) by rw [← hw7]; exact ha_new _ _ _ hM.symm)
      have MV := Lib.hid (show some M ≠ _ from fun e => by have := (O.out.lt M e.symm).2; omega)
      have O := Lib.hid ((O.out.below B7.out).drew)
      have Z := Lib.hid (show Below w.heap.size w w7.drew from (BW.out.trans (B7.out.mono BW.out.size)).drew)
      clear hM hw7
      refine wp_region_road (fun W => W.heap[M]? = some (.cells cs.toArray 63 (0, 0))) [(true, 0), (true, 1), (true, 2), (true, 3), (true, 4), (true, 5), (true, 9), (true, 10), (false, 6), (false, 7), (false, 8), (false, 11), (true, 12)] (by kernel_rfl) (by kernel_rfl) (fun _ _ d _ _ h => by cases d <;> exact h) ?_
      simp only [List.filterMap_cons, List.filterMap_nil, List.getElem?_toArray, List.getElem?_cons_zero, List.getElem?_cons_succ, Option.map_some]
      generalize World.drew w7 = wd7 at R7 O Z ⊢
      refine planG_q (v := ?_) (by rfl) (R7.out) ?_ ?_
      rotate_left
      · intro W hW
        go_simp
        with_reducible rfl
      simp only [Act.put, List.setIfInBounds_toArray, List.set_cons_zero, List.set_cons_succ]
      refine planG_q (v := ?_) (by rfl) (R7.out) ?_ ?_
      rotate_left
      · intro W hW
        go_simp
        with_reducible rfl
      simp only [Act.put, List.setIfInBounds_toArray, List.set_cons_zero, List.set_cons_succ]
      refine planG_q (by rfl) (R7.out) (fun W hW => run_cell 3 (.tmp 17) rfl _ Tryz.underlying3 rfl rfl (row_cell hW 0 C0.out)) ?_
      simp only [Act.put, List.setIfInBounds_toArray, List.set_cons_zero, List.set_cons_succ]
      refine planG_q (v := ?_) (by rfl) (R7.out) ?_ ?_
      rotate_left
      · intro W hW
        go_simp
        with_reducible rfl
      simp only [Act.put, List.setIfInBounds_toArray, List.set_cons_zero, List.set_cons_succ]
      refine planG_q (v := ?_) (by rfl) (R7.out) ?_ ?_
      rotate_left
      · intro W hW
        go_simp
        with_reducible rfl
      simp only [Act.put, List.setIfInBounds_toArray, List.set_cons_zero, List.set_cons_succ]
      refine planG_q (by rfl) (R7.out) (fun W hW => run_cell 4 (.tmp 20) rfl _ Tryz.underlying4 rfl rfl (row_cell hW 33 C33.out)) ?_
      simp only [Act.put, List.setIfInBounds_toArray, List.set_cons_zero, List.set_cons_succ]
      refine planG_q (v := ?_) (by rfl) (R7.out) ?_ ?_
      rotate_left
      · intro W hW
        go_simp
        with_reducible rfl
      simp only [Act.put, List.setIfInBounds_toArray, List.set_cons_zero, List.set_cons_succ]
      refine planG_q (by rfl) (R7.out) (fun W hW => run_arr_off 38 (.tmp 25) rfl 32 5 Tryz.underlying38 rfl M 1 rfl W) ?_
      simp only [Act.put, List.setIfInBounds_toArray, List.set_cons_zero, List.set_cons_succ]
      refine planG_t (by rfl) (fun K hK => ?_)
      go_simp
      refine (flag_any wd7 z.o).mono ?_
      obtain ⟨fl, hfl⟩ : ∃ fl : UInt8, fl = if z.o then 1 else 0 := ⟨_, rfl⟩
      rw [← hfl]
      have FLE := Lib.hid (show fl = flagB z.o from hfl)
      clear hfl
      rintro e wd ⟨rfl, hw⟩
      rw [hw]
      clear hw wd
      refine hK.out _ _ (R7.out) ?_
      clear hK K
      refine planG_t (by rfl) (fun K hK => ?_)
      go_simp
      generalize hB : Array.size (World.heap _) = N8
      generalize hw : World.alloc _ _ = wn
      obtain ⟨hr, hs, hb⟩ := built_two (x := nz) (y := fl) hw hB Z.out
      have R9 := Lib.hid hr
      have Z := Lib.hid hs
      have O := Lib.hid (O.out.below hb)
      have R7 := Lib.hid (below_block hb (row_lt R7.out) R7.out)
      clear hB hw hb hr hs
      refine hK.out _ _ (R7.out) ?_
      clear hK K
      refine planG_t (by rfl) (fun K hK => ?_)
      refine app_wp TB.out (.tmp 16) (.tmp 23) rfl w.heap.size _ L [nz, fl] (some ⟨N8, 0, none⟩) 2 2 rfl rfl rfl O.out R9.out Z.out.size (by have := LL.out; omega) ?_
      intro v8 w8 ho hg hat
      have R8 := Lib.hid (grown_block hg MV.out R7.out)
      have MV8 := Lib.hid (show some M ≠ v8.ownBlock from fun e => by
        rcases hat with h | h
        · exact MV.out (e.trans h)
        · rw [h] at e; have := row_lt R7.out; have := Option.some.inj e; omega)
      have Z := Lib.hid (below_own Z.out O.out hg)
      have O := Lib.hid ho
      clear ho hg hat
      have RK := Lib.hid (show RdB w8 (some ⟨M, 1, none⟩) z.k by have := RdB.range (range_key (z := z) (W := w8) (b := M) (o := 0) (by rw [← CE.out]; exact range_rowL R8.out)); rwa [Nat.zero_add] at this)
      refine hK.out _ _ (R8.out) ?_
      clear hK K
      refine planG_t (by rfl) (fun K hK => ?_)
      refine app_wp TB.out (.tmp 24) (.tmp 26) rfl w.heap.size v8 _ z.k (some ⟨M, 1, none⟩) 32 32 rfl rfl OK.out.1 O.out RK.out Z.out.size (by have := LL.out; simp; omega) ?_
      intro v9 w9 ho hg hat
      have R9 := Lib.hid (grown_block hg MV8.out R8.out)
      have Z := Lib.hid (below_own Z.out O.out hg)
      have O := Lib.hid (show OwnB w9 w.heap.size v9 ([n0] ++ ((zs.take (j + 1)).map memL).flatten) by rw [TK.out, ← List.append_assoc, ← List.append_assoc, ← LE.out, ← FLE.out]; exact ho)
      clear ho hg hat
      refine hK.out _ _ (R9.out) ?_
      clear hK K
      refine planG_q (v := ?_) (by rfl) (R9.out) ?_ ?_
      rotate_left
      · intro W hW
        go_simp
        with_reducible rfl
      simp only [Act.put, List.setIfInBounds_toArray, List.set_cons_zero, List.set_cons_succ]
      refine planG_nil ?_
      go_wp2_with fail
      go_roundw
      case rel => exact ⟨j + 1, by have := JQ.out; omega, by go_num, O.out, Z.out⟩
      case measure => have := JQ.out; simp [intOf]; omega
    · have hD : decide ((j : Int) < (q : Int)) = false := by simp; omega
      have Z := Lib.hid BW.out
      have O := Lib.hid (show OwnB wp w.heap.size _ ([n0] ++ (zs.map memL).flatten) by have h1 := O.out; rwa [List.take_of_length_le (by rw [Q1.out]; omega)] at h1)
      have LL := Lib.hid (show ([n0] ++ (zs.map memL).flatten).length = 1 + 34 * q by rw [List.length_append, mems_length zs HR.out.ok, Q1.out]; rfl)
      go_upto_region 7 with fail
      obtain ⟨n3, hn3⟩ : ∃ n3, n3 = ([n0] ++ (zs.map memL).flatten).length := ⟨_, rfl⟩
      obtain ⟨A3, c3, rfl, _, _, _, _⟩ := O.out.read
      rw [← hn3] at O ⊢
      have N3 := Lib.hid (hn3.symm.trans rfl)
      have N4 := Lib.hid (show n3 = 1 + 34 * q by rw [hn3, LL.out])
      clear hn3
      have b3 : (n3 : Int) ≤ 273 := by have := N4.out; have := Q8.out; omega
      obtain ⟨k, hk⟩ : ∃ k : Nat, k = 273 - n3 := ⟨_, rfl⟩
      have ek : (273 : Int) - (n3 : Int) = (k : Int) := by omega
      have KE := Lib.hid hk
      clear hk
      refine wp_region_list ?_
      simp only [List.toList_toArray]
      refine wpList_val (v := ?_) (by rfl) ?_ ?_
      rotate_left
      · go_simp
        with_reducible rfl
      simp only [Act.put, List.setIfInBounds_toArray, List.set_cons_zero, List.set_cons_succ]
      refine wpList_val (v := ?_) (by rfl) ?_ ?_
      rotate_left
      · go_simp
        with_reducible rfl
      simp only [Act.put, List.setIfInBounds_toArray, List.set_cons_zero, List.set_cons_succ]
      refine wpList_val (v := ?_) (by rfl) ?_ ?_
      rotate_left
      · go_simp
        with_reducible rfl
      simp only [Act.put, List.setIfInBounds_toArray, List.set_cons_zero, List.set_cons_succ]
      refine wpList_val (v := ?_) (by rfl) ?_ ?_
      rotate_left
      · go_simp
        with_reducible rfl
      simp only [Act.put, List.setIfInBounds_toArray, List.set_cons_zero, List.set_cons_succ]
      rw [show IntKind.i64.wrap (k : Int) = k by rw [IntKind.wrap_i64]; omega]
      refine wpList_op (by rfl) (fun K hK => ?_)
      refine appz_wp TB.out Tryz.underlying3 (.tmp 29) (.tmp 32) rfl w.heap.size _ _ k rfl rfl O.out Z.out.size (by rw [LL.out]; have := Q8.out; omega) ?_
      intro v4 w4 ho hg _
      have Z := Lib.hid (below_own Z.out O.out hg)
      have O := Lib.hid (show OwnB w4 w.heap.size v4 d by rw [DE.out, dirL, Q1.out, show numB (q : Int) = n0 from N0.out.symm, ← N4.out, ← KE.out]; exact ho)
      clear ho hg
      refine hK.out _ _ ?_
      clear hK K
      simp only [Act.put, List.setIfInBounds_toArray, List.set_cons_zero, List.set_cons_succ]
      go_wp2_with fail
      go_ret
      exact ⟨_, rfl, O.out, Z.out⟩
end Go.Proofs.YtlocplkjokoknaaGreat

/- box.Box: Key; ring.none. No condition but those each theorem states. -/
namespace Go.Proofs.YtlocplkjokoknaaGreat
set_option linter.unusedVariables false
set_option linter.unusedSimpArgs false
open Go.RowKit
attribute [local go_sem ↓] Go.wp_at_zero Go.wp_at_succ

set_option maxRecDepth 100000 in
set_option maxHeartbeats 2000000 in
theorem bkey_any (w0 : World) (g S D b lo : Nat) (s : BSt) (w : World) (h : BoxB w0 g S D b lo s w) (hu : s.u + 32 ≤ 900000) (hF : s.F.length ≤ 100000) :
    Calls Tryz.prog 26 #[.pointer (some ⟨g, 0, none⟩)] w fun e w' => e = .returned (.agg (W8 (tellS s.F s.u 32))) ∧ BoxB w0 g S D b lo { s with u := s.u + 32 } w' ∧ w.grownBy w' (some S) := by
  have H := Lib.hid h
  have HU := Lib.hid hu
  have HF := Lib.hid hF
  have Z32 := Lib.hid zero32
  obtain ⟨X, hX⟩ : ∃ X, X = tellS s.F s.u 32 := ⟨_, rfl⟩
  have XL := Lib.hid (show X.length = 32 by rw [hX, tellS_length])
  rw [← hX]
  have XE := Lib.hid hX
  clear h hu hF hX
  go_enter Tryz.func26, Tryz.ntmps26
  go_upto_region 1 with fail
  rw [← Z32.out]
  generalize hM : Array.size (World.heap w) = M
  generalize hw1 : World.alloc w _ = w1
  have B1 := Lib.hid (show Below w.heap.size w w1 by rw [← hw1]; exact below_new _ _)
  have R1 := Lib.hid (show w1.heap[M]? = some (.cells (W8 (List.replicate 32 0)) 38 (0, 0)) by rw [← hw1]; exact ha_new _ _ _ hM.symm)
  have H1 := Lib.hid (H.out.keep B1.out)
  have ME := Lib.hid hM
  have SM := Lib.hid (show S < M by rw [← hM]; exact H.out.src.lt)
  have DM := Lib.hid (show D < M by rw [← hM]; exact H.out.ltD)
  clear hw1 hM
  go_wp2_with fail
  refine (bnone_any w0 g S D b lo s w1 H1.out).mono ?_
  rintro e w2 ⟨rfl, hw⟩
  rw [hw]
  clear hw w2
  have c1 := row_cell H1.out.row 1 rfl
  go_wp2_with fail
  refine (dkey_any S D s.F s.u true w1 H1.out.src H1.out.ltD HF.out HU.out).mono ?_
  rw [← XE.out]
  rintro e w2 ⟨rfl, hs, hg⟩
  have ZX2 := Lib.hid (show (Tryz.prog.info? 38).map (·.size) = some (W8 X).size by rw [W8_size, XL.out]; kernel_rfl)
  have SR := Lib.hid hs
  have G2 := Lib.hid hg
  have R2 := Lib.hid (grown_block hg (by intro e; have := Option.some.inj e; have := SM.out; omega) R1.out)
  have GG : ∀ {w8 : World}, w2.grownBy w8 (some M) → w.grownBy w8 (some S) := fun hg8 => grown_more (World.grownBy.trans (grown_of_below B1.out).mono_none G2.out) hg8 (by rintro k ⟨⟩; have := ME.out; omega)
  clear hs hg c1
  go_wp2_with (refine wpList_store_whole rfl rfl 38 (.tmp 2) (.tmp 10) rfl M (W8 X) rfl rfl 38 _ R2.out ZX2.out (by rw [W8_size, W8_size, XL.out]; simp) (W8_one _) ?_; intro w8 hz8 hg8 _)
  refine bodyPost_ret (results_cell_row rfl _ _ M 38 (W8 X) (0, 0) _ rfl hz8 Tryz.underlying38 rfl ZX2.out) rfl ⟨rfl, H.out.step (SR.out.far hg8 (by rintro k ⟨⟩; have := SM.out; have := DM.out; omega)) (GG hg8), GG hg8⟩
set_option maxRecDepth 100000 in
set_option maxHeartbeats 1000000 in
theorem none_any (w0 : World) (g S D b lo : Nat) (s : BSt) (w : World) (h : BoxB w0 g S D b lo s w) :
    Calls Tryz.prog 25 #[.pointer (some ⟨g, 0, none⟩)] w fun e w' => e = .returned (.bool false) ∧ Below w.heap.size w w' := by
  have H := Lib.hid h
  clear h
  obtain ⟨cs, n, hn, hcs⟩ : ∃ (cs : Array Value) (n : Nat), 65536 < n ∧ (Instr.makeSlice 22 (.int .i64 65537) (.int .i64 65537)).run Tryz.prog w = .ok (.slice (some ⟨w.heap.size, 0, none⟩) n n) (w.alloc (.cells cs 5)) :=
    ⟨_, 65537, by omega, make_run 65537 (by omega) w⟩
  have Z32 := Lib.hid zero32
  have NB := Lib.hid hn
  go_enter Tryz.func25, Tryz.ntmps25
  go_wp2_with fail
  clear hcs hn
  generalize hw1 : World.alloc w _ = w1
  have B1 := Lib.hid (show Below w.heap.size w w1 by rw [← hw1]; exact below_new _ _)
  clear hw1
  rw [← Z32.out]
  refine (bseal_big w0 g S D b lo s w1 (H.out.keep B1.out) (List.replicate 32 0) _ n n NB.out).mono ?_
  rintro e w2 ⟨rfl, hb⟩
  have B2 := Lib.hid (B1.out.trans (hb.mono B1.out.size))
  clear hb
  go_wp2_with fail
  go_ret
  exact ⟨rfl, B2.out⟩
end Go.Proofs.YtlocplkjokoknaaGreat

/- copy, also of none; a whole row stored: generic. No condition but those each theorem states. -/
namespace Go.Proofs.YtlocplkjokoknaaGreat
set_option linter.unusedVariables false
set_option linter.unusedSimpArgs false
open Go.RowKit
attribute [local go_sem ↓] Go.wp_at_zero Go.wp_at_succ

/-- copy(dst, src) of bytes into a place of a block that is known whole, also of none. -/
theorem copyA_wp {P : Program} {o : Oper} {a : Act} {Q : Exit → Act → World → Prop} {W : World} {K : Act → World → Prop} (T : ByteT P) (d s : Operand) (ho : o.op = .call { callee := .builtin .copy, args := #[d, s], argTypes := #[22, 22] })
    (g off dLen dCap : Nat) (A : Option Addr) (sLen sCap : Nat) (hd : a.eval d = .slice (some ⟨g, off, none⟩) dLen dCap) (hs : a.eval s = .slice A sLen sCap) (cur : Array Value) (t : TypeId) (hg : W.heap[g]? = some (.cells cur t (0, 0)))
    (src : List UInt8) (hl : src.length = sLen) (hR : RdB W A src) (m : Nat) (hm : m = Nat.min sLen dLen) (hfit : off + m ≤ cur.size)
    (h : ∀ w', w'.heap[g]? = some (.cells (cur.toList.take off ++ (B8 (src.take m) ++ cur.toList.drop (off + m))).toArray t (0, 0)) → W.grownBy w' (some g) → w'.heap.size = W.heap.size → K (a.put o.dst (.int .i64 (m : Int))) w') : o.wp P a W K Q := by
  by_cases h0 : 0 < sLen
  · exact copyB_wp T d s ho g off dLen dCap A sLen sCap hd hs cur t hg src hl hR h0 m hm hfit h
  · have hm0 : m = 0 := by rw [hm]; have : sLen = 0 := by omega
                           rw [this]; exact Nat.min_eq_left (Nat.zero_le _)
    have hsz : (P.info? 5).map (·.size) = some 1 := by
      have := T.hinfo
      revert this
      cases P.info? 5 <;> simp <;> intros <;> assumption
    have hrun := run_copy_none (P := P) W 22 22 o.type 5 (some ⟨g, off, none⟩) A dLen dCap sLen sCap T.ht hsz (by rw [← hm, hm0])
    unfold Oper.wp execOp
    simp only [ho, resolve, invoke, builtin, Sem.run_bind, Sem.run_pure, Result.andThen_ok, List.map_toArray, List.map_cons, List.map_nil, hd, hs, hrun]
    have := h W (by rw [hg, hm0]; simp [B8]) (World.grownBy.refl _ _) rfl
    rw [hm0] at this
    exact this
/-- A whole row into a block that is known whole. -/
theorem wp_store_whole {P : Program} {o : Oper} {a : Act} {Q : Exit → Act → World → Prop} {w : World} {K : Act → World → Prop} (ty : TypeId) (x y : Operand) (ho : o.op = .store ty x y)
    (g : Nat) (cells : Array Value) (hx : a.eval x = .pointer (some ⟨g, 0, none⟩)) (hy : a.eval y = .agg cells)
    (t : TypeId) (old : Array Value) (hg : w.heap[g]? = some (.cells old t (0, 0))) (hi : (P.info? ty).map (·.size) = some cells.size)
    (hold : old.size = cells.size) (h1 : cells.all (·.oneCell') = true)
    (h : ∀ w', w'.heap[g]? = some (.cells cells t (0, 0)) → w.grownBy w' (some g) → w'.heap.size = w.heap.size → K (a.put o.dst undef) w') : o.wp P a w K Q :=
  wp_store_row ty x y ho g cells hx hy t old hg hi hold h1
    (h _ (setRow_heap w g _ _ t _ hg) ⟨rfl, rfl, rfl, by simp, fun k hk hne => setRow_other w g k cells (fun e => hne (by rw [e]))⟩ (by simp))
end Go.Proofs.YtlocplkjokoknaaGreat

/- bytes.Repeat of one byte, 73 times. No condition but those each theorem states. -/
namespace Go.Proofs.YtlocplkjokoknaaGreat
set_option linter.unusedVariables false
set_option linter.unusedSimpArgs false
open Go.RowKit
attribute [local go_sem ↓] Go.wp_at_zero Go.wp_at_succ

set_option maxRecDepth 100000 in
set_option maxHeartbeats 1000000 in
theorem mul64_one (w : World) : Calls Tryz.prog 95 #[.int .u64 1, .int .u64 73] w fun e w' => e = .returned (.tuple #[.int .u64 0, .int .u64 73]) ∧ w' = w := by
  go_enter Tryz.func95, Tryz.ntmps95
  go_wp2_with fail
  go_ret2
  exact ⟨rfl, rfl⟩
set_option maxRecDepth 100000 in
set_option maxHeartbeats 1000000 in
theorem mul_one73 (w : World) : Calls Tryz.prog 71 #[.int .u64 1, .int .u64 73] w fun e w' => e = .returned (.tuple #[.int .u64 0, .int .u64 73]) ∧ w' = w := by
  go_enter Tryz.func71, Tryz.ntmps71
  go_wp2_with fail
  refine (mul64_one w).mono ?_
  rintro e w1 ⟨rfl, hw⟩
  rw [hw]
  clear hw w1
  go_wp2_with fail
  go_ret2
  exact ⟨rfl, rfl⟩
set_option maxRecDepth 100000 in
set_option maxHeartbeats 2000000 in
theorem repeat_full (w : World) (A : Option Addr) (R : RdB w A [255]) : Calls Tryz.prog 51 #[.slice A 1 1, .int .i64 73] w fun e w' => ∃ G, e = .returned (.slice (some ⟨G, 0, none⟩) 73 73) ∧ w.heap.size ≤ G ∧ G < w'.heap.size ∧ RdB w' (some ⟨G, 0, none⟩) (List.replicate 73 255) ∧ Below w.heap.size w w' := by
  have TB := Lib.hid (show ByteT Tryz.prog from ⟨Tryz.underlying22, by kernel_rfl⟩)
  have HR := Lib.hid R
  clear R
  go_enter Tryz.func51, Tryz.ntmps51
  go_wp2_with fail
  refine (mul_one73 w).mono ?_
  rintro e w1 ⟨rfl, hw⟩
  rw [hw]
  clear hw w1
  obtain ⟨cs, hrun, hn1, hn2⟩ := Lib.run_makeNoZero (P := Tryz.prog) w #[3] 22 5 Tryz.underlying22 73 (by omega)
  have h8 : (callFunc 72 #[.int .i64 73]).run Tryz.prog w = .ok (.value (.slice (some ⟨w.heap.size, 0, none⟩) 73 cs.size)) (w.drew.drew.alloc (.cells cs 5)) := by
    rw [@run_callFunc_extern Tryz.prog 72 _ (Extern.BytealgMakeNoZero.makeNoZero #[3] #[22]) Tryz.func72 (by kernel_rfl) (by kernel_rfl) (by kernel_rfl) (by kernel_rfl), show (.int .i64 73 : Value) = .int .i64 ((73 : Nat) : Int) from rfl, hrun]
    rfl
  obtain ⟨n, hn⟩ : ∃ n, n = cs.size := ⟨_, rfl⟩
  rw [← hn] at h8 hn1
  have nb : (73 : Int) ≤ (n : Int) := by omega
  have CS := Lib.hid hn.symm
  have N73 := Lib.hid hn1
  clear hrun hn1 hn2 hn
  go_upto_region 17 with fail
  generalize hM : Array.size (World.heap w) = M
  have ML := Lib.hid hM
  generalize hw1 : World.alloc w _ = w1
  have B1 := Lib.hid (show Below w.heap.size w w1.drew.drew by rw [← hw1]; exact (below_new _ _).drew.drew)
  have R1 := Lib.hid (show w1.drew.drew.heap[M]? = some (.cells cs 5 (0, 0)) by rw [← hw1]; exact ha_new _ _ _ hM.symm)
  clear hM hw1 h8
  generalize World.drew (World.drew w1) = w2 at B1 R1 ⊢
  refine wp_region_list ?_
  simp only [List.toList_toArray]
  refine wpList_val (v := ?_) (by rfl) ?_ ?_
  rotate_left
  · go_simp
    with_reducible rfl
  simp only [Act.put, List.setIfInBounds_toArray, List.set_cons_zero, List.set_cons_succ]
  refine wpList_val (v := ?_) (by rfl) ?_ ?_
  rotate_left
  · go_simp
    with_reducible rfl
  simp only [Act.put, List.setIfInBounds_toArray, List.set_cons_zero, List.set_cons_succ]
  refine wpList_op (by rfl) (fun K hK => ?_)
  refine copyA_wp TB.out (.tmp 58) (.tmp 59) rfl M 0 73 73 A 1 1 rfl rfl cs 5 R1.out [255] rfl (HR.out.keep B1.out) 1 rfl (by rw [CS.out]; have := N73.out; omega) ?_
  intro w3 hr hg hs
  have G3 := Lib.hid (show Below w.heap.size w w3 from B1.out.trans (grown_below hg B1.out.size (by rintro k ⟨⟩; rw [ML.out]; exact Nat.le_refl _)))
  obtain ⟨c3, hc3⟩ : ∃ c3, c3 = (cs.toList.take 0 ++ (B8 ([255].take 1) ++ cs.toList.drop (0 + 1))).toArray := ⟨_, rfl⟩
  rw [← hc3] at hr
  have R3 := Lib.hid hr
  have T3 := Lib.hid (show c3.toList.take 1 = B8 (List.replicate 1 255) by rw [hc3]; rfl)
  have S3 := Lib.hid (show 73 ≤ c3.size by rw [hc3]; have := N73.out; have := CS.out; simp [B8]; omega)
  clear hr hg hs hc3
  refine hK.out _ _ ?_
  clear hK K
  simp only [Act.put, List.setIfInBounds_toArray, List.set_cons_zero, List.set_cons_succ]
  go_wp2_with fail
  go_loopw [10] (fun v wr => ∃ (m : Nat) (c : Array Value), 1 ≤ m ∧ m ≤ 73 ∧ v = .int .i64 (m : Int) ∧ wr.heap[M]? = some (.cells c 5 (0, 0)) ∧ c.toList.take m = B8 (List.replicate m 255) ∧ 73 ≤ c.size ∧ Below w.heap.size w wr) (fun v _ => 73 - (intOf v).toNat)
  case atStart => exact ⟨1, c3, by omega, by omega, rfl, R3.out, T3.out, S3.out, G3.out⟩
  case round =>
    obtain ⟨m, c, hm1, hm2, rfl, hr, ht, hs, hb⟩ := hrel
    have R := Lib.hid hr
    have T := Lib.hid ht
    have SZ := Lib.hid hs
    have BW := Lib.hid hb
    have M1 := Lib.hid (And.intro hm1 hm2)
    clear hr ht hs hb R3 T3 S3 G3
    obtain ⟨wp, rfl⟩ : ∃ wp : World, wp = wr := ⟨_, rfl⟩
    by_cases hlt : m < 73
    · have hD : decide ((m : Int) < 73) = true := by simp; omega
      have hN : decide ((73 : Int) < (m : Int)) = false := by simp; omega
      have m0 : (m : Int) ≤ 73 := by omega
      have eM : min (m : Int) 73 = (m : Int) := by omega
      clear hm1 hm2
      go_upto_region 20 with fail
      have R0 := Lib.hid (show wp.drew.heap[M]? = some (.cells c 5 (0, 0)) from R.out)
      have B0 := Lib.hid (show Below w.heap.size w wp.drew from BW.out.drew)
      have hne : ¬ (73 = m) := by omega
      have hle : m ≤ 73 := by omega
      refine wp_region_road (fun _ => True) [(true, 0), (true, 1), (true, 2), (true, 3), (true, 4), (true, 5), (true, 6), (false, 7), (true, 8), (true, 9)] (by kernel_rfl) (by kernel_rfl) (fun _ _ d _ _ h => by cases d <;> exact h) ?_
      simp only [List.filterMap_cons, List.filterMap_nil, List.getElem?_toArray, List.getElem?_cons_zero, List.getElem?_cons_succ, Option.map_some]
      generalize World.drew wp = wd at R0 B0 ⊢
      refine planG_q (v := ?_) (by rfl) (trivial) ?_ ?_
      rotate_left
      · intro W hW
        go_simp
        with_reducible rfl
      simp only [Act.put, List.setIfInBounds_toArray, List.set_cons_zero, List.set_cons_succ]
      refine planG_q (v := ?_) (by rfl) (trivial) ?_ ?_
      rotate_left
      · intro W hW
        go_simp
        with_reducible rfl
      simp only [Act.put, List.setIfInBounds_toArray, List.set_cons_zero, List.set_cons_succ]
      refine planG_q (v := ?_) (by rfl) (trivial) ?_ ?_
      rotate_left
      · intro W hW
        go_simp
        with_reducible rfl
      simp only [Act.put, List.setIfInBounds_toArray, List.set_cons_zero, List.set_cons_succ]
      refine planG_q (v := ?_) (by rfl) (trivial) ?_ ?_
      rotate_left
      · intro W hW
        go_simp
        with_reducible rfl
      simp only [Act.put, List.setIfInBounds_toArray, List.set_cons_zero, List.set_cons_succ]
      refine planG_q (v := ?_) (by rfl) (trivial) ?_ ?_
      rotate_left
      · intro W hW
        go_simp
        with_reducible rfl
      simp only [Act.put, List.setIfInBounds_toArray, List.set_cons_zero, List.set_cons_succ]
      refine planG_q (v := ?_) (by rfl) (trivial) ?_ ?_
      rotate_left
      · intro W hW
        go_simp
        with_reducible rfl
      simp only [Act.put, List.setIfInBounds_toArray, List.set_cons_zero, List.set_cons_succ]
      refine planG_q (v := ?_) (by rfl) (trivial) ?_ ?_
      rotate_left
      · intro W hW
        go_simp
        with_reducible rfl
      simp only [Act.put, List.setIfInBounds_toArray, List.set_cons_zero, List.set_cons_succ]
      obtain ⟨k, hk⟩ : ∃ k, k = Nat.min m (73 - m) := ⟨_, rfl⟩
      have K1 := Lib.hid (show k ≤ m ∧ m + k ≤ 73 ∧ 1 ≤ k by have h1 := Nat.min_le_left m (73 - m); have h2 := Nat.min_le_right m (73 - m); have h3 : 1 ≤ Nat.min m (73 - m) := by have := M1.out.1; exact Nat.le_min.2 ⟨this, by omega⟩
                                                             rw [hk]; refine ⟨h1, ?_, h3⟩; have h4 : Nat.min m (73 - m) ≤ 73 - m := h2; omega)
      have RS := Lib.hid (show RdB wd (some ⟨M, 0, none⟩) (List.replicate m 255) from fun j hj => ⟨M, 0, rfl, by
        have h2 := B8_get (List.replicate m 255) j hj
        rw [← T.out, List.getElem?_take, if_pos (by simpa using hj)] at h2
        rw [Nat.zero_add]
        exact row_cell R0.out j (by simpa using h2)⟩)
      refine planG_t (by rfl) (fun K hK => ?_)
      refine copyA_wp TB.out (.tmp 70) (.tmp 73) rfl M m (73 - m) (73 - m) (some ⟨M, 0, none⟩) m 73 rfl rfl c 5 R0.out (List.replicate m 255) (by simp) RS.out k hk (by have := K1.out; have := SZ.out; omega) ?_
      intro w4 hr hg hs
      obtain ⟨c4, hc4⟩ : ∃ c4, c4 = (c.toList.take m ++ (B8 ((List.replicate m 255).take k) ++ c.toList.drop (m + k))).toArray := ⟨_, rfl⟩
      rw [← hc4] at hr
      have R4 := Lib.hid hr
      have T4 := Lib.hid (show c4.toList.take (m + k) = B8 (List.replicate (m + k) 255) by
        have e1 : (c.toList.take m ++ B8 ((List.replicate m 255).take k)) = B8 (List.replicate (m + k) 255) := by
          rw [T.out, List.take_replicate, Nat.min_eq_left K1.out.1, ← B8_append, List.replicate_append_replicate]
        rw [hc4, ← List.append_assoc, e1]
        exact List.take_left' (by simp [B8_length]))
      have S4 := Lib.hid (show 73 ≤ c4.size by rw [hc4]; have := SZ.out; have := K1.out; simp [B8_length, List.length_take]; omega)
      have B4 := Lib.hid (show Below w.heap.size w w4 from B0.out.trans (grown_below hg B0.out.size (by rintro q ⟨⟩; rw [ML.out]; exact Nat.le_refl _)))
      clear hr hg hs hc4 hk hlt hne hle
      have kb : (m : Int) + (k : Int) ≤ 73 := by have := K1.out; omega
      have ew : IntKind.i64.wrap ((m : Int) + (k : Int)) = (m : Int) + (k : Int) := by rw [IntKind.wrap_i64]; omega
      refine hK.out _ _ (trivial) ?_
      clear hK K
      refine planG_q (v := ?_) (by rfl) (trivial) ?_ ?_
      rotate_left
      · intro W hW
        go_simp
        with_reducible rfl
      simp only [Act.put, List.setIfInBounds_toArray, List.set_cons_zero, List.set_cons_succ]
      refine planG_q (v := ?_) (by rfl) (trivial) ?_ ?_
      rotate_left
      · intro W hW
        go_simp
        with_reducible rfl
      simp only [Act.put, List.setIfInBounds_toArray, List.set_cons_zero, List.set_cons_succ]
      refine planG_nil ?_
      go_wp2_with fail
      go_roundw
      case rel => exact ⟨m + k, c4, by have := M1.out; omega, by have := K1.out; omega, by go_num, R4.out, T4.out, S4.out, B4.out⟩
      case measure => have := K1.out; simp [intOf]; omega
    · obtain rfl : m = 73 := by omega
      clear hm1 hm2 hlt
      go_wp2_with fail
      go_ret
      refine ⟨M, rfl, by have := ML.out; omega, row_lt R.out, ?_, BW.out⟩
      intro j hj
      refine ⟨M, 0, rfl, ?_⟩
      have h1 : c[j]? = some (.int .u8 (((List.replicate 73 255 : List UInt8).getD j 0).toNat : Int)) := by
        have h2 := B8_get (List.replicate 73 255) j hj
        rw [← T.out, List.getElem?_take, if_pos (by simpa using hj)] at h2
        simpa using h2
      rw [Nat.zero_add]
      exact row_cell R.out j h1
end Go.Proofs.YtlocplkjokoknaaGreat

/- What wrap keeps: plain. No condition but those each theorem states. -/
namespace Go.Proofs.YtlocplkjokoknaaGreat
set_option linter.unusedVariables false
set_option linter.unusedSimpArgs false
open Go.RowKit

def wrapB : List UInt8 := [119, 114, 97, 112]
def dirB : List UInt8 := [100, 105, 114]
def fullL : List UInt8 := List.replicate 73 255
/-- By whom, and what, is sealed as wrap i; and the box ahead of that: a key is drawn for nobody's. -/
def entAt (y : Kys) (l : List Mem) (i : Nat) (s : BSt) : BSt × Ent :=
  match l[i]? with
  | some z => (s, ⟨z.k, wrapB, textL y z.o⟩)
  | none => ({ s with u := s.u + 32 }, ⟨tellS s.F s.u 32, wrapB, fullL⟩)
/-- The wraps, one behind the other. -/
inductive WrapsR (y : Kys) (l : List Mem) (s : BSt) : Nat → BSt → List (List UInt8) → Prop
  | zero : WrapsR y l s 0 s []
  | succ {i : Nat} {s1 s2 : BSt} {xs : List (List UInt8)} {x : List UInt8} : WrapsR y l s i s1 xs → SealR (entAt y l i s1).1 (entAt y l i s1).2 s2 (some x) → WrapsR y l s (i + 1) s2 (xs ++ [x])
def dirE (y : Kys) (l : List Mem) : Ent := ⟨y.o, dirB, dirL l⟩
/-- What wrap answers. -/
def WrapR (y : Kys) (l : List Mem) (s s' : BSt) (r : Option (List (List UInt8) × List UInt8)) : Prop :=
  (∃ i s1 xs, i < 8 ∧ WrapsR y l s i s1 xs ∧ SealR (entAt y l i s1).1 (entAt y l i s1).2 s' none ∧ r = none) ∨
  (∃ s1 xs, WrapsR y l s 8 s1 xs ∧ SealR s1 (dirE y l) s' none ∧ r = none) ∨
  (∃ s1 xs d, WrapsR y l s 8 s1 xs ∧ SealR s1 (dirE y l) s' (some d) ∧ r = some (xs, d))
theorem WrapsR.len {y : Kys} {l : List Mem} {s s1 : BSt} {i : Nat} {xs : List (List UInt8)} (h : WrapsR y l s i s1 xs) : xs.length = i := by
  induction h with
  | zero => rfl
  | succ _ _ ih => simp [ih]
theorem entAt_text {y : Kys} (hy : OkK y) {l : List Mem} {i : Nat} {s : BSt} : (entAt y l i s).2.text.length = 73 := by
  unfold entAt
  split
  · exact textL_length hy _
  · rfl
theorem entAt_key {y : Kys} {l : List Mem} (hl : ∀ z ∈ l, OkM z) {i : Nat} {s : BSt} : (entAt y l i s).2.key.length = 32 := by
  unfold entAt
  split
  · rename_i z hz
    exact (hl z (List.mem_of_getElem? hz)).1
  · exact tellS_length _ _ _
theorem entAt_state {y : Kys} {l : List Mem} {i : Nat} {s : BSt} : (entAt y l i s).1.mode = s.mode ∧ (entAt y l i s).1.F = s.F ∧ (entAt y l i s).1.u ≤ s.u + 32 ∧ (entAt y l i s).1.n = s.n ∧ (entAt y l i s).1.m = s.m := by
  unfold entAt
  split <;> simp
theorem WrapsR.bounds {y : Kys} (hy : OkK y) {l : List Mem} {s s1 : BSt} {i : Nat} {xs : List (List UInt8)} (h : WrapsR y l s i s1 xs) : s1.mode = s.mode ∧ s1.F = s.F ∧ s1.u ≤ s.u + i * 840 ∧ s1.n ≤ s.n + i ∧ s1.m.length ≤ s.m.length + i := by
  induction h with
  | zero => simp
  | @succ i s1 s2 xs x _ hs ih =>
    have h1 := hs.mode
    have h2 := @entAt_state y l i s1
    rw [entAt_text hy] at h1
    rw [h2.1, h2.2.1] at h1
    have hm := h2.2.2.2.2
    rw [hm] at h1
    refine ⟨h1.1.trans ih.1, h1.2.1.trans ih.2.1, ?_, ?_, ?_⟩ <;> omega
/-- A slice of slices, or another row that is none of bytes, grows: a box is as it was. -/
theorem BoxB.grownT {w0 W W' : World} {g S D b lo : Nat} {s : BSt} {r : Option Nat} (h : BoxB w0 g S D b lo s W) (hg : W.grownBy W' r) (hl : D < lo) (hw : w0.heap.size ≤ lo)
    (hr : ∀ q, r = some q → lo ≤ q ∧ ∃ cur T fr, W.heap[q]? = some (.cells cur T fr) ∧ T ≠ 5) : BoxB w0 g S D b lo s W' := by
  have hne : ∀ k, k < lo → some k ≠ r := fun k hk e => by have := (hr k e.symm).1; omega
  have hlS := h.lS
  obtain ⟨es, clock, m1, m2, m3⟩ := h.map.has
  refine ⟨h.bel.trans (grown_below hg h.bel.size (fun q e => Nat.le_trans hw (hr q e).1)), h.hg, h.hS, h.hD, h.hb, grown_block hg (hne g h.lg) h.row, h.src.far hg (fun q e => ⟨by have := (hr q e).1; omega, by have := (hr q e).1; omega⟩), Nat.lt_of_lt_of_le h.ltD hg.size, ⟨⟨es, clock, grown_block hg (hne b h.map.low) m1, m2, m3.mono fun x p hx => ?_⟩, h.map.small, h.map.low⟩, h.gS, h.gD, h.gb, h.Sb, h.Db, h.lg, h.lS, h.few⟩
  obtain ⟨h1, A, c, h2, h3, h4, h5, h6⟩ := hx
  have hq : ∀ a, A = some a → some a.block ≠ r := by
    intro a ea e
    obtain ⟨cur, fr, hc⟩ := (h6 a ea).2.2
    obtain ⟨_, cur', T, fr', hc', ht'⟩ := hr _ e.symm
    rw [hc] at hc'
    injection hc' with hc'
    injection hc' with _ ht _
    exact ht' ht.symm
  exact ⟨h1, A, c, h2, h3.grown hg (fun q e a ea e2 => hq a ea (by rw [e2, e])), h4, h5, fun a ea => ⟨Nat.lt_of_lt_of_le (h6 a ea).1 hg.size, (h6 a ea).2.1, (h6 a ea).2.2.grown hg (hq a ea)⟩⟩
/-- A ring's value, and what it says. -/
def RgB (base : Nat) (W : World) (v : Value) (xs : List (List UInt8)) (d : List UInt8) : Prop :=
  ∃ A c vs dv, v = .agg #[.slice A xs.length c, dv] ∧ xs.length ≤ c ∧ vs.length = xs.length ∧ RdV W A vs ∧ (∀ a, A = some a → base ≤ a.block ∧ a.block < W.heap.size) ∧
    (∀ (i : Nat) (x : List UInt8), xs[i]? = some x → ∃ u, vs[i]? = some u ∧ SlA base none W u x) ∧ SlA base none W dv d
theorem rdV_boxG {g S b base : Nat} {w w' : World} {A : Option Addr} {l : List Value} (h : RdV w A l) (hf : BoxF g S b w w') (hA : ∀ a, A = some a → base ≤ a.block) (hl : g < base ∧ S < base ∧ b < base) : RdV w' A l := by
  intro j v hj
  obtain ⟨q, o, e, hc⟩ := h j v hj
  have h1 := hA _ e
  have h2 : q < w.heap.size := World.block_lt_of_cell? w _ hc
  have h3 : base ≤ q := h1
  exact ⟨q, o, e, by rw [← hc]; simp only [World.cell?, hf.2 q h2 (by omega) (by omega) (by omega)]⟩
theorem RgB.keep {base : Nat} {W W' : World} {v : Value} {xs : List (List UInt8)} {d : List UInt8} (h : RgB base W v xs d) (hb : Below W.heap.size W W') : RgB base W' v xs d := by
  obtain ⟨A, c, vs, dv, h1, h2, h3, h4, h5, h6, h7⟩ := h
  exact ⟨A, c, vs, dv, h1, h2, h3, h4.keep hb, fun a e => ⟨(h5 a e).1, Nat.lt_of_lt_of_le (h5 a e).2 hb.size⟩, fun i x hx => by
    obtain ⟨u, h8, h9⟩ := h6 i x hx
    exact ⟨u, h8, h9.keep hb⟩, h7.keep hb⟩
theorem RgB.boxF {base : Nat} {W W' : World} {v : Value} {xs : List (List UInt8)} {d : List UInt8} {g S b : Nat} (h : RgB base W v xs d) (hf : BoxF g S b W W') (hl : g < base ∧ S < base ∧ b < base) : RgB base W' v xs d := by
  obtain ⟨A, c, vs, dv, h1, h2, h3, h4, h5, h6, h7⟩ := h
  exact ⟨A, c, vs, dv, h1, h2, h3, rdV_boxG h4 hf (fun a e => (h5 a e).1) hl, fun a e => ⟨(h5 a e).1, Nat.lt_of_lt_of_le (h5 a e).2 hf.1⟩, fun i x hx => by
    obtain ⟨u, h8, h9⟩ := h6 i x hx
    exact ⟨u, h8, h9.boxF hf hl⟩, h7.boxF hf hl⟩
theorem RgB.low {base base' : Nat} {W : World} {v : Value} {xs : List (List UInt8)} {d : List UInt8} (h : RgB base W v xs d) (hl : base' ≤ base) : RgB base' W v xs d := by
  have hs : ∀ {v : Value} {l : List UInt8}, SlA base none W v l → SlA base' none W v l := fun ⟨A, c, h1, h2, h3, h4⟩ => ⟨A, c, h1, h2, h3, fun a e => ⟨Nat.le_trans hl (h4 a e).1, (h4 a e).2⟩⟩
  obtain ⟨A, c, vs, dv, h1, h2, h3, h4, h5, h6, h7⟩ := h
  exact ⟨A, c, vs, dv, h1, h2, h3, h4, fun a e => ⟨Nat.le_trans hl (h5 a e).1, (h5 a e).2⟩, fun i x hx => by
    obtain ⟨u, h8, h9⟩ := h6 i x hx
    exact ⟨u, h8, hs h9⟩, hs h7⟩
end Go.Proofs.YtlocplkjokoknaaGreat

/- What wrap keeps, the steps: plain. A constant's bytes that are converted, wherever they lie. No condition but those each theorem states. -/
namespace Go.Proofs.YtlocplkjokoknaaGreat
set_option linter.unusedVariables false
set_option linter.unusedSimpArgs false
open Go.RowKit

theorem cv_gen {W : World} {g n c : Nat} {C : Array Value} (hg : W.heap[g]? = some (.cells C 5 (0, 0))) :
    ∃ W', (convert 22 22 (.slice (some ⟨g, 0, none⟩) n c)).run Tryz.prog W = .ok (.slice (some ⟨g, 0, none⟩) n c) W' ∧ W'.heap[g]? = some (.cells C 5 (C.size, C.size + 1)) ∧ W.grownBy W' (some g) ∧ W'.heap.size = W.heap.size := by
  have hsh : W.shape? g = some (5, C.size) := by
    unfold World.shape?
    rw [hg]
  refine ⟨W.freeze ⟨g, C.size, none⟩ 1, ?_, ?_, ?_, ?_⟩
  · simp [convert, run_underlying Tryz.underlying22, run_underlying Tryz.underlying5, markStringish, hsh]
  · unfold World.freeze
    rw [if_neg (by decide)]
    simp [Array.getElem?_modify, hg]
  · unfold World.freeze
    rw [if_neg (by decide)]
    exact ⟨rfl, rfl, rfl, by simp, fun k hk hne => by simp only [Array.getElem?_modify]; rw [if_neg (fun e => hne (by rw [e]))]⟩
  · unfold World.freeze
    rw [if_neg (by decide)]
    simp
theorem boxF_of_grown {g S b : Nat} {W W' : World} (hg : W.grownBy W' (some S)) : BoxF g S b W W' := ⟨hg.size, fun k h1 _ h3 _ => hg.block k h1 (fun e => h3 (Option.some.inj e))⟩
theorem range_boxF {g S b q o : Nat} {W W' : World} {l : List Value} (h : W.rangeAt q o l) (hf : BoxF g S b W W') (hq : q ≠ g ∧ q ≠ S ∧ q ≠ b) : W'.rangeAt q o l := by
  intro j v hj
  have h1 := h j v hj
  have h2 : q < W.heap.size := World.block_lt_of_cell? W _ h1
  rw [← h1]
  simp only [World.cell?, hf.2 q h2 hq.1 hq.2.1 hq.2.2]
theorem RdM.boxF {g S b : Nat} {W W' : World} {A : Option Addr} {zs : List Mem} (h : RdM W A zs) (hf : BoxF g S b W W') (hA : ∀ a, A = some a → a.block ≠ g ∧ a.block ≠ S ∧ a.block ≠ b) : RdM W' A zs := by
  intro j z hj
  obtain ⟨h1, q, o, e, hr⟩ := h j z hj
  exact ⟨h1, q, o, e, range_boxF hr hf (hA _ e)⟩
theorem row_boxF {g S b q : Nat} {W W' : World} {o : Obj} (h : W.heap[q]? = some o) (hf : BoxF g S b W W') (hq : q ≠ g ∧ q ≠ S ∧ q ≠ b) : W'.heap[q]? = some o := (hf.2 q (row_lt h) hq.1 hq.2.1 hq.2.2).trans h
theorem SlA.grown {base : Nat} {r : Option Nat} {W W' : World} {v : Value} {l : List UInt8} {q : Nat} (h : SlA base r W v l) (hg : W.grownBy W' (some q)) (hq : q < base) : SlA base r W' v l := by
  obtain ⟨A, c, h1, h2, h3, h4⟩ := h
  exact ⟨A, c, h1, h2, h3.grown hg (fun q' e a ea => by have := Option.some.inj e; have := (h4 a ea).1; omega), fun a e => ⟨(h4 a e).1, Nat.lt_of_lt_of_le (h4 a e).2.1 hg.size, (h4 a e).2.2⟩⟩
theorem RgB.grown {base : Nat} {W W' : World} {v : Value} {xs : List (List UInt8)} {d : List UInt8} {q : Nat} (h : RgB base W v xs d) (hg : W.grownBy W' (some q)) (hq : q < base) : RgB base W' v xs d := by
  obtain ⟨A, c, vs, dv, h1, h2, h3, h4, h5, h6, h7⟩ := h
  refine ⟨A, c, vs, dv, h1, h2, h3, fun j u hj => ?_, fun a e => ⟨(h5 a e).1, Nat.lt_of_lt_of_le (h5 a e).2 hg.size⟩, fun i x hx => ?_, h7.grown hg hq⟩
  · obtain ⟨k, o, e, hc⟩ := h4 j u hj
    refine ⟨k, o, e, hg.cell hc (fun e2 => ?_)⟩
    have h8 : base ≤ k := (h5 _ e).1
    have := Option.some.inj e2
    simp only at this
    omega
  · obtain ⟨u, h8, h9⟩ := h6 i x hx
    exact ⟨u, h8, h9.grown hg hq⟩
/-- So many sealed texts in the ring's variable, block M. -/
structure RnW (w2 : World) (g S b lo M : Nat) (xs : List (List UInt8)) (v : Value) (vs : List Value) (W : World) : Prop where
  fr : BoxF g S b w2 W
  row : W.heap[M]? = some (.cells #[v, .slice none 0 0] 35 (0, 0))
  own : OwnV W (M + 1) 22 v vs
  vl : vs.length = xs.length
  xv : ∀ (j : Nat) (x : List UInt8), xs[j]? = some x → ∃ u, vs[j]? = some u ∧ SlA (M + 1) v.ownBlock W u x
  mw : w2.heap.size ≤ M
  low : g < lo ∧ S < lo ∧ b < lo
  lom : lo ≤ w2.heap.size
section
variable {w2 : World} {g S b lo M : Nat} {xs : List (List UInt8)} {v : Value} {vs : List Value} {W : World}
theorem RnW.keep {W' : World} (h : RnW w2 g S b lo M xs v vs W) (hb : Below W.heap.size W W') : RnW w2 g S b lo M xs v vs W' :=
  ⟨h.fr.below hb, below_block hb (row_lt h.row) h.row, h.own.below hb, h.vl, fun j x hx => by
    obtain ⟨u, h1, h2⟩ := h.xv j x hx
    exact ⟨u, h1, h2.keep hb⟩, h.mw, h.low, h.lom⟩
theorem BoxF.trans {W' W'' : World} (h : BoxF g S b W W') (h2 : BoxF g S b W' W'') : BoxF g S b W W'' :=
  ⟨Nat.le_trans h.1 h2.1, fun k h3 h4 h5 h6 => (h2.2 k (Nat.lt_of_lt_of_le h3 h.1) h4 h5 h6).trans (h.2 k h3 h4 h5 h6)⟩
theorem RnW.boxF {W' : World} (h : RnW w2 g S b lo M xs v vs W) (hf : BoxF g S b W W') : RnW w2 g S b lo M xs v vs W' := by
  have hm := h.mw
  have hl := h.low
  have hlo := h.lom
  exact ⟨h.fr.trans hf, row_boxF h.row hf ⟨by omega, by omega, by omega⟩, OwnV.boxF h.own hf ⟨by omega, by omega, by omega⟩, h.vl, fun j x hx => by
    obtain ⟨u, h1, h2⟩ := h.xv j x hx
    exact ⟨u, h1, h2.boxF hf ⟨by omega, by omega, by omega⟩⟩, h.mw, h.low, h.lom⟩
/-- One more. -/
theorem RnW.next (h : RnW w2 g S b lo M xs v vs W) {x : List UInt8} {A : Option Addr} {m c : Nat} (hx : RdB W A x) (hm : x.length = m) (hmc : m ≤ c) (hA : ∀ a, A = some a → M < a.block ∧ a.block < W.heap.size ∧ some a.block ≠ v.ownBlock) {W2 W3 W4 : World} (h2 : Below W.heap.size W W2)
    {v3 : Value} (ho : OwnV W3 (M + 1) 22 v3 (vs ++ [.slice A m c])) (hg : W2.grownBy W3 v.ownBlock) (hat : v3.ownBlock = v.ownBlock ∨ v3.ownBlock = some W2.heap.size)
    (hr : W4.heap[M]? = some (.cells #[v3, .slice none 0 0] 35 (0, 0))) (hg4 : W3.grownBy W4 (some M)) : RnW w2 g S b lo M (xs ++ [x]) v3 (vs ++ [.slice A m c]) W4 := by
  have k2 := h.keep h2
  have hmw := h.mw
  have hown := h.own.lt
  have sx : SlA (M + 1) v.ownBlock W2 (.slice A m c) x := by
    subst hm
    exact ⟨A, c, rfl, hmc, hx.keep h2, fun a e => ⟨by have := (hA a e).1; omega, Nat.lt_of_lt_of_le (hA a e).2.1 h2.size, (hA a e).2.2⟩⟩
  refine ⟨(k2.fr.grown hg (fun k e => by have := (hown k e).1; omega)).grown hg4 (fun k e => by cases e; exact .inr (.inr (.inr hmw))), hr, ?_, by simp [h.vl], ?_, hmw, h.low, h.lom⟩
  · refine OwnV.grown ho hg4 ?_
    rcases hq : v3.ownBlock with _ | q
    · exact .inl rfl
    · refine .inr fun e => ?_
      have := Option.some.inj e
      have := (ho.lt q hq).1
      omega
  · intro j y hy
    rcases Nat.lt_or_ge j xs.length with hj | hj
    · rw [List.getElem?_append_left hj] at hy
      obtain ⟨u, h5, h6⟩ := k2.xv j y hy
      exact ⟨u, by rw [List.getElem?_append_left (by rw [h.vl]; exact hj), h5], (h6.app hg hat).grown hg4 (by omega)⟩
    · have : j = xs.length := by
        have := (List.getElem?_eq_some_iff.1 hy).1
        simp at this
        omega
      subst this
      rw [List.getElem?_append_right (Nat.le_refl _), Nat.sub_self] at hy
      simp only [List.getElem?_cons_zero, Option.some.injEq] at hy
      subst hy
      exact ⟨_, by rw [List.getElem?_append_right (by rw [h.vl]; exact Nat.le_refl _), h.vl, Nat.sub_self]; rfl, (sx.app hg hat).grown hg4 (by omega)⟩
/-- The ring that is answered. -/
theorem RnW.ring (h : RnW w2 g S b lo M xs v vs W) {W' : World} {d : List UInt8} {A : Option Addr} {m c : Nat} (hb : BoxF g S b W W') (hd : RdB W' A d) (hm : d.length = m) (hmc : m ≤ c) (hA : ∀ a, A = some a → M < a.block ∧ a.block < W'.heap.size) : RgB (M + 1) W' (.agg #[v, .slice A m c]) xs d := by
  have k := h.boxF hb
  obtain ⟨Av, cv, e, hr, hc, _, hab⟩ := k.own.read
  subst hm
  refine ⟨Av, cv, vs, _, by rw [e, k.vl], by rw [← k.vl]; exact hc, k.vl, hr, hab, fun i x hx => ?_, ⟨A, c, rfl, hmc, hd, fun a e => ⟨(hA a e).1, (hA a e).2, by simp⟩⟩⟩
  obtain ⟨u, h1, A2, c2, h3, h4, h5, h6⟩ := k.xv i x hx
  exact ⟨u, h1, A2, c2, h3, h4, h5, fun a e => ⟨(h6 a e).1, (h6 a e).2.1, by simp⟩⟩
end
end Go.Proofs.YtlocplkjokoknaaGreat

/- The constants "wrap" and "dir", laid as bytes. No condition. -/
namespace Go.Proofs.YtlocplkjokoknaaGreat
set_option linter.unusedVariables false
set_option linter.unusedSimpArgs false
open Go.RowKit

theorem build_wrap (W : World) : (Instr.buildSlice 22 4 #[(0, .int .u8 119), (1, .int .u8 114), (2, .int .u8 97), (3, .int .u8 112)]).run Tryz.prog W = .ok (.slice (some ⟨W.heap.size, 0, none⟩) 4 4) (W.alloc (.cells (W8 wrapB) 5)) := by
  go_simp
  rfl
theorem build_dir (W : World) : (Instr.buildSlice 22 3 #[(0, .int .u8 100), (1, .int .u8 105), (2, .int .u8 114)]).run Tryz.prog W = .ok (.slice (some ⟨W.heap.size, 0, none⟩) 3 3) (W.alloc (.cells (W8 dirB) 5)) := by
  go_simp
  rfl
section
variable {o : Oper} {a : Act} {Q : Exit → Act → World → Prop} {K : Act → World → Prop} {W : World}
theorem wp_wrap (ho : o.op = .buildSlice 22 4 #[(0, .const (.int .u8 119)), (1, .const (.int .u8 114)), (2, .const (.int .u8 97)), (3, .const (.int .u8 112))]) (h : K (a.put o.dst (.slice (some ⟨W.heap.size, 0, none⟩) 4 4)) (W.alloc (.cells (W8 wrapB) 5))) : o.wp Tryz.prog a W K Q := by
  have h1 := build_wrap W
  unfold Oper.wp execOp
  simp only [ho, List.map_toArray, List.map_cons, List.map_nil, Act.eval, Sem.run_bind, Sem.run_pure, h1, Result.andThen_ok]
  exact h
theorem wp_dir (ho : o.op = .buildSlice 22 3 #[(0, .const (.int .u8 100)), (1, .const (.int .u8 105)), (2, .const (.int .u8 114))]) (h : K (a.put o.dst (.slice (some ⟨W.heap.size, 0, none⟩) 3 3)) (W.alloc (.cells (W8 dirB) 5))) : o.wp Tryz.prog a W K Q := by
  have h1 := build_dir W
  unfold Oper.wp execOp
  simp only [ho, List.map_toArray, List.map_cons, List.map_nil, Act.eval, Sem.run_bind, Sem.run_pure, h1, Result.andThen_ok]
  exact h
/-- The conversion of a constant's bytes. -/
theorem wp_cv (x : Operand) (ho : o.op = .convert 22 22 x) {g n c : Nat} {C : Array Value} (hg : W.heap[g]? = some (.cells C 5 (0, 0))) (hx : a.eval x = .slice (some ⟨g, 0, none⟩) n c)
    (h : ∀ W', W'.heap[g]? = some (.cells C 5 (C.size, C.size + 1)) → W.grownBy W' (some g) → W'.heap.size = W.heap.size → K (a.put o.dst (.slice (some ⟨g, 0, none⟩) n c)) W') : o.wp Tryz.prog a W K Q := by
  obtain ⟨W', h1, h2, h3, h4⟩ := cv_gen (n := n) (c := c) hg
  unfold Oper.wp execOp
  simp only [ho, hx, h1, Sem.run_bind, Sem.run_pure, Result.andThen_ok]
  exact h W' h2 h3 h4
end
end Go.Proofs.YtlocplkjokoknaaGreat

/- Ways out of functions that answer variables of structs and something more. No condition but those each theorem states. -/
namespace Go.Proofs.YtlocplkjokoknaaGreat
set_option linter.unusedVariables false
set_option linter.unusedSimpArgs false
open Go.RowKit

theorem load_whole {P : Program} {w : World} {g : Nat} {T : TypeId} {cells : Array Value} (hg : w.heap[g]? = some (.cells cells T (0, 0))) {d : TypeDesc} (hu : P.underlying T = some d) (hr : d.isRow = true) (hi : (P.info? T).map (·.size) = some cells.size) :
    (((asAddr (.pointer (some ⟨g, 0, none⟩))).run P w).andThen fun a w₁ => (loadVar T a).run P w₁) = .ok (.agg cells) w := by
  simp only [asAddr, Sem.run_pure, Result.andThen_ok]
  have h := run_loadVar_mid (P := P) w g 0 T cells.toList _ (fun j v hj => row_cell hg (0 + j) (by rw [Nat.zero_add]; simpa using hj)) hu hr (by simpa using hi)
  simpa using h
theorem ret_cell {P : Program} {fn : Func} {R : Ending → World → Prop} {a : Act} {w : World} (g : Nat) (T : TypeId) (cells : Array Value) (v : Value) {p u : Tmp} (h : fn.results = #[.cell p T, .tmp u])
    (hp : a.tmps.getD p undef = .pointer (some ⟨g, 0, none⟩)) (hu : a.tmps.getD u undef = v) (hd : a.defers = []) (hg : w.heap[g]? = some (.cells cells T (0, 0))) {d : TypeDesc} (ht : P.underlying T = some d) (hr : d.isRow = true) (hi : (P.info? T).map (·.size) = some cells.size)
    (hR : R (.returned (.tuple #[.agg cells, v])) w) : bodyPost P fn R .ret a w := by
  refine bodyPost_ret ?_ hd hR
  rw [results_cell_tmp h, hp, hu]
  have h1 := load_whole hg ht hr hi
  simp only [asAddr, Sem.run_pure, Result.andThen_ok] at h1 ⊢
  rw [h1]
  rfl
theorem ret_cells {P : Program} {fn : Func} {R : Ending → World → Prop} {a : Act} {w : World} (g g2 : Nat) (T T2 : TypeId) (cells cells2 : Array Value) (v : Value) {p p2 u : Tmp} (h : fn.results = #[.cell p T, .cell p2 T2, .tmp u])
    (hp : a.tmps.getD p undef = .pointer (some ⟨g, 0, none⟩)) (hp2 : a.tmps.getD p2 undef = .pointer (some ⟨g2, 0, none⟩)) (hu : a.tmps.getD u undef = v) (hd : a.defers = [])
    (hg : w.heap[g]? = some (.cells cells T (0, 0))) {d : TypeDesc} (ht : P.underlying T = some d) (hr : d.isRow = true) (hi : (P.info? T).map (·.size) = some cells.size)
    (hg2 : w.heap[g2]? = some (.cells cells2 T2 (0, 0))) {d2 : TypeDesc} (ht2 : P.underlying T2 = some d2) (hr2 : d2.isRow = true) (hi2 : (P.info? T2).map (·.size) = some cells2.size)
    (hR : R (.returned (.tuple #[.agg cells, .agg cells2, v])) w) : bodyPost P fn R .ret a w := by
  refine bodyPost_ret ?_ hd hR
  have h1 := load_whole hg ht hr hi
  have h2 := load_whole hg2 ht2 hr2 hi2
  simp only [asAddr, Sem.run_pure, Result.andThen_ok] at h1 h2
  simp only [results, h]
  simp only [Array.getD_eq_getD_getElem?] at hp hp2 hu
  simp [Sem.run_bind, Result.andThen, hp, hp2, hu, asAddr, h1, h2]
end Go.Proofs.YtlocplkjokoknaaGreat

/- One cell of a block that is known whole, stored; a slice of one slice, built. No condition but those each theorem states. -/
namespace Go.Proofs.YtlocplkjokoknaaGreat
set_option linter.unusedVariables false
set_option linter.unusedSimpArgs false
open Go.RowKit

theorem set_known {W : World} {g i : Nat} {v : Value} {cur : Array Value} {t : TypeId} (hg : W.heap[g]? = some (.cells cur t (0, 0))) :
    (W.setCell ⟨g, i, none⟩ v).heap[g]? = some (.cells (cur.setIfInBounds i v) t (0, 0)) ∧ W.grownBy (W.setCell ⟨g, i, none⟩ v) (some g) ∧ (W.setCell ⟨g, i, none⟩ v).heap.size = W.heap.size :=
  ⟨heap_setCell_same _ _ _ _ _ _ hg, grown_set (World.grownBy.refl _ _) _ _, by simp [World.setCell]⟩
section
variable {o : Oper} {a : Act} {Q : Exit → Act → World → Prop} {K : Act → World → Prop} {W : World}
theorem wp_store_slices (x y : Operand) (ho : o.op = .store 33 x y) (g i : Nat) (A : Option Addr) (n c : Nat) (hx : a.eval x = .pointer (some ⟨g, i, none⟩)) (hy : a.eval y = .slice A n c) {cur : Array Value} {t : TypeId} (hg : W.heap[g]? = some (.cells cur t (0, 0))) (hi : i < cur.size)
    (h : ∀ w', w'.heap[g]? = some (.cells (cur.setIfInBounds i (.slice A n c)) t (0, 0)) → W.grownBy w' (some g) → w'.heap.size = W.heap.size → K (a.put o.dst undef) w') : o.wp Tryz.prog a W K Q := by
  have c0 := row_cell hg i (Array.getElem?_eq_getElem hi)
  have f0 := row_free hg i
  obtain ⟨h1, h2, h3⟩ := set_known (v := .slice A n c) (i := i) hg
  have hh := h _ h1 h2 h3
  clear h h1 h2 h3 hg
  unfold Oper.wp execOp
  simp only [ho, hx, hy]
  go_simp
  exact hh
theorem wp_store_bytes (x y : Operand) (ho : o.op = .store 22 x y) (g i : Nat) (A : Option Addr) (n c : Nat) (hx : a.eval x = .pointer (some ⟨g, i, none⟩)) (hy : a.eval y = .slice A n c) {cur : Array Value} {t : TypeId} (hg : W.heap[g]? = some (.cells cur t (0, 0))) (hi : i < cur.size)
    (h : ∀ w', w'.heap[g]? = some (.cells (cur.setIfInBounds i (.slice A n c)) t (0, 0)) → W.grownBy w' (some g) → w'.heap.size = W.heap.size → K (a.put o.dst undef) w') : o.wp Tryz.prog a W K Q := by
  have c0 := row_cell hg i (Array.getElem?_eq_getElem hi)
  have f0 := row_free hg i
  obtain ⟨h1, h2, h3⟩ := set_known (v := .slice A n c) (i := i) hg
  have hh := h _ h1 h2 h3
  clear h h1 h2 h3 hg
  unfold Oper.wp execOp
  simp only [ho, hx, hy]
  go_simp
  exact hh
theorem wp_store_bool (x y : Operand) (ho : o.op = .store 4 x y) (g i : Nat) (q : Bool) (hx : a.eval x = .pointer (some ⟨g, i, none⟩)) (hy : a.eval y = .bool q) {cur : Array Value} {t : TypeId} (hg : W.heap[g]? = some (.cells cur t (0, 0))) (hi : i < cur.size)
    (h : ∀ w', w'.heap[g]? = some (.cells (cur.setIfInBounds i (.bool q)) t (0, 0)) → W.grownBy w' (some g) → w'.heap.size = W.heap.size → K (a.put o.dst undef) w') : o.wp Tryz.prog a W K Q := by
  have c0 := row_cell hg i (Array.getElem?_eq_getElem hi)
  have f0 := row_free hg i
  obtain ⟨h1, h2, h3⟩ := set_known (v := .bool q) (i := i) hg
  have hh := h _ h1 h2 h3
  clear h h1 h2 h3 hg
  unfold Oper.wp execOp
  simp only [ho, hx, hy]
  go_simp
  exact hh
theorem wp_build_slice (x : Operand) (ho : o.op = .buildSlice 33 1 #[(0, x)]) (A : Option Addr) (n c : Nat) (hx : a.eval x = .slice A n c)
    (h : K (a.put o.dst (.slice (some ⟨W.heap.size, 0, none⟩) 1 1)) (W.alloc (.cells #[.slice A n c] 22))) : o.wp Tryz.prog a W K Q := by
  unfold Oper.wp execOp
  simp only [ho, hx, List.map_toArray, List.map_cons, List.map_nil]
  go_simp
  exact h
end
end Go.Proofs.YtlocplkjokoknaaGreat

/- wrap. No condition but those each theorem states. -/
namespace Go.Proofs.YtlocplkjokoknaaGreat
set_option linter.unusedVariables false
set_option linter.unusedSimpArgs false
open Go.RowKit
attribute [local go_sem ↓] Go.wp_at_zero Go.wp_at_succ

def RingZ : Array Value := #[.slice none 0 0, .slice none 0 0]
theorem info_ring : (Tryz.prog.info? 35).map (·.size) = some 2 := by kernel_rfl
theorem info_ringZ : (Tryz.prog.info? 35).map (·.size) = some RingZ.size := info_ring
theorem ringZ_one : RingZ.all (·.oneCell') = true := by simp [RingZ, Value.oneCell']
theorem boxF_pre {g S b : Nat} {w w2 W : World} (hb : Below w.heap.size w w2) (h : BoxF g S b w2 W) : BoxF g S b w W := ⟨Nat.le_trans hb.size h.1, fun k h1 h2 h3 h4 => (h.2 k (Nat.lt_of_lt_of_le h1 hb.size) h2 h3 h4).trans (hb.block k h1)⟩
/-- What wrap leaves. -/
def WrapP (w0 : World) (g S D b lo : Nat) (y : Kys) (l : List Mem) (s : BSt) (w : World) (e : Ending) (w' : World) : Prop :=
  ∃ s' r, WrapR y l s s' r ∧ BoxB w0 g S D b lo s' w' ∧ BoxF g S b w w' ∧
    match r with
    | none => e = .returned (.tuple #[.agg RingZ, .int .i64 15])
    | some (xs, d) => ∃ v, e = .returned (.tuple #[v, .int .i64 0]) ∧ RgB w.heap.size w' v xs d
set_option maxRecDepth 100000 in
set_option maxHeartbeats 8000000 in
theorem wrap_any (w0 : World) (g S D b lo : Nat) (s : BSt) (w : World) (h : BoxB w0 g S D b lo s w) (hmo : s.mode = 0 ∨ s.mode = 1) (y : Kys) (hy : OkK y) (A : Option Addr) (c : Nat) (zs : List Mem) (R : RdM w A zs) (h8 : zs.length ≤ 8) (hnn : ∀ z ∈ zs, 0 ≤ z.n ∧ z.n ≤ 255)
    (hA : ∀ a, A = some a → a.block ≠ g ∧ a.block ≠ S ∧ a.block ≠ b) (hu : s.u + 10000 ≤ 900000) (hF : s.F.length ≤ 100000) (hm : s.m.length ≤ 5000) (hn : s.n ≤ 50000) (hlo : lo ≤ w.heap.size) (hD : D < lo) (hw0 : w0.heap.size ≤ lo) :
    Calls Tryz.prog 27 #[.pointer (some ⟨g, 0, none⟩), .agg (RowK y).toArray, .slice A zs.length c] w (WrapP w0 g S D b lo y zs s w) := by
  have TB := Lib.hid (show ByteT Tryz.prog from ⟨Tryz.underlying22, by kernel_rfl⟩)
  have TO := Lib.hid (show SlT Tryz.prog 33 22 (.slice none 0 0) 24 from ⟨Tryz.underlying33, by kernel_rfl, rfl⟩)
  have Z32 := Lib.hid zero32
  have H := Lib.hid h
  have HMO := Lib.hid hmo
  have HY := Lib.hid hy
  have HR := Lib.hid R
  have HNN := Lib.hid hnn
  have HA := Lib.hid hA
  have HU := Lib.hid hu
  have HF := Lib.hid hF
  have HM := Lib.hid hm
  have HN := Lib.hid hn
  have HLO := Lib.hid hlo
  have HD := Lib.hid hD
  have HW0 := Lib.hid hw0
  have LOW := Lib.hid (show g < lo ∧ S < lo ∧ b < lo from ⟨h.lg, h.lS, h.map.low⟩)
  obtain ⟨q, hq⟩ : ∃ q, q = zs.length := ⟨_, rfl⟩
  obtain ⟨cs, hcs⟩ : ∃ cs, cs = RowK y := ⟨_, rfl⟩
  rw [← hq, ← hcs]
  have CE := Lib.hid hcs
  have CL := Lib.hid (show (Tryz.prog.info? 40).map (·.size) = some cs.length by rw [hcs, RowK_length hy]; exact info_kys)
  have Q1 := Lib.hid hq.symm
  have Q8 := Lib.hid (show q ≤ 8 by omega)
  have b0 : (q : Int) ≤ 8 := by omega
  clear h hmo hy R h8 hnn hA hu hF hm hn hlo hD hw0 hq hcs
  go_enter Tryz.func27, Tryz.ntmps27
  go_upto_region 1 with fail
  generalize hM4 : Array.size (World.heap w) = M4
  generalize hwa : World.alloc w _ = wa
  have sa : wa.heap.size = M4 + 1 := by rw [← hwa, ha_size, hM4]
  generalize hwb : World.alloc wa _ = w2
  have B2 := Lib.hid (show Below w.heap.size w w2 by rw [← hwb, ← hwa]; exact (below_new _ _).alloc (below_new _ _).size _)
  have s2 := Lib.hid (show w2.heap.size = M4 + 2 by rw [← hwb, ha_size, sa])
  have R4 := Lib.hid (show w2.heap[M4]? = some (.cells cs.toArray 40 (0, 0)) from by
    have h1 : wa.heap[M4]? = some (.cells cs.toArray 40 (0, 0)) := by rw [← hwa]; exact ha_new _ _ _ hM4.symm
    rw [← hwb]
    exact below_block (below_new _ _) (row_lt h1) h1)
  have R6 := Lib.hid (show w2.heap[M4 + 1]? = some (.cells RingZ 35 (0, 0)) by rw [← hwb]; exact ha_new _ _ _ sa.symm)
  have LM := Lib.hid (show lo ≤ M4 by rw [← hM4]; exact HLO.out)
  have ME := Lib.hid hM4
  clear hwa hwb sa hM4
  go_upto_region 2 with fail
  rw [s2.out]
  generalize hwc : World.alloc w2 _ = w3
  have B3 := Lib.hid (show Below w2.heap.size w2 w3 by rw [← hwc]; exact below_new _ _)
  have R8 := Lib.hid (show w3.heap[M4 + 2]? = some (.cells #[.slice none 0 0, .slice none 0 0] 35 (0, 0)) by rw [← hwc]; exact ha_new _ _ _ s2.out.symm)
  have P0 := Lib.hid (show RnW w2 g S b lo (M4 + 2) [] (.slice none 0 0) [] w3 from ⟨(BoxF.refl g S b w2).below B3.out, R8.out, OwnV.nil _ _ _, rfl, fun j x hx => by simp at hx, by rw [s2.out]; exact Nat.le_refl _, LOW.out, by rw [s2.out]; have := LM.out; omega⟩)
  have BX0 := Lib.hid ((H.out.keep B2.out).keep B3.out)
  clear hwc R8 B3
  go_wp2_with fail
  go_loopw [16] (fun i wr => ∃ (j : Nat) (s1 : BSt) (xs : List (List UInt8)) (v : Value) (vs : List Value), j ≤ 8 ∧ i = .int .i64 (j : Int) ∧ WrapsR y zs s j s1 xs ∧ BoxB w0 g S D b lo s1 wr ∧ RnW w2 g S b lo (M4 + 2) xs v vs wr) (fun i _ => 8 - (intOf i).toNat)
  case atStart => exact ⟨0, s, [], _, [], by omega, rfl, .zero, BX0.out, P0.out⟩
  case round =>
    obtain ⟨j, s1, xs, v, vs, hj, rfl, hwr, hbx, hrn⟩ := hrel
    have J := Lib.hid hj
    have WR := Lib.hid hwr
    have BX := Lib.hid hbx
    have RN := Lib.hid hrn
    have BD := Lib.hid (hwr.bounds HY.out)
    clear hj hwr hbx hrn
    obtain ⟨wp, rfl⟩ : ∃ wp : World, wp = wr := ⟨_, rfl⟩
    by_cases hlt : j < 8
    · have hD : decide ((j : Int) < 8) = true := by simp; omega
      have J8 := Lib.hid hlt
      have j7 : (j : Int) ≤ 7 := by omega
      clear hlt
      go_upto_region 5 with fail
      refine wp_region_list ?_
      simp only [List.toList_toArray]
      refine wpList_op (by rfl) (fun K hK => ?_)
      go_simp
      generalize hB : Array.size (World.heap _) = N9
      generalize hw : World.alloc _ _ = wn
      obtain ⟨hr, hs, _⟩ := built_one (x := 255) hw hB (Below.refl _ _)
      have R9 := Lib.hid hr
      have Z := Lib.hid hs
      clear hB hw hr hs
      refine hK.out _ _ ?_
      clear hK K
      refine wpList_op (by rfl) (fun K hK => ?_)
      go_simp
      refine (repeat_full wn _ R9.out).mono ?_
      rintro e w5 ⟨GT, rfl, hG1, hG2, hrt, hb⟩
      have BR := Lib.hid (Z.out.trans (hb.mono Z.out.size))
      have RT := Lib.hid hrt
      have GL := Lib.hid (show wp.heap.size ≤ GT ∧ GT < w5.heap.size from ⟨Nat.le_trans Z.out.size hG1, hG2⟩)
      clear hG1 hG2 hrt hb R9 Z
      refine hK.out _ _ ?_
      clear hK K
      go_upto_region 7 with fail
      rw [← Z32.out]
      generalize hM11 : Array.size (World.heap w5) = M11
      generalize hw6 : World.alloc w5 _ = w6
      have B6 := Lib.hid (show Below w5.heap.size w5 w6 by rw [← hw6]; exact below_new _ _)
      have R11 := Lib.hid (show w6.heap[M11]? = some (.cells (W8 (List.replicate 32 0)) 38 (0, 0)) by rw [← hw6]; exact ha_new _ _ _ hM11.symm)
      have BP6 := Lib.hid (show Below wp.heap.size wp w6 from BR.out.trans (B6.out.mono BR.out.size))
      have RT6 := Lib.hid (RT.out.keep B6.out)
      have MG := Lib.hid (show wp.heap.size ≤ M11 ∧ GT < M11 by rw [← hM11]; exact ⟨BR.out.size, GL.out.2⟩)
      clear hM11 hw6 RT BR B6
      by_cases hq : j < q
      · have hDq : decide ((j : Int) < (q : Int)) = true := by simp; omega
        obtain ⟨z, bz, oz, hz, hok, hAz, hrz⟩ := HR.out.at (show j < zs.length by rw [Q1.out]; exact hq)
        have hr6 : w6.rangeAt bz (oz + j * 34) (RowM z) := rangeAt_keep (range_boxF (rangeAt_keep hrz B2.out) RN.out.fr (HA.out _ hAz)) BP6.out
        have KR := Lib.hid (range_key hr6)
        have FR := Lib.hid (hr6 33 _ (by have := rowM_o hok.1; rwa [List.getElem?_toArray] at this))
        have EE := Lib.hid (show entAt y zs j s1 = (s1, ⟨z.k, wrapB, textL y z.o⟩) by unfold entAt; rw [hz])
        have KL := Lib.hid (show (⟨z.k, wrapB, textL y z.o⟩ : Ent).key.length = 32 from hok.1)
        have AE := Lib.hid hAz
        have JQ := Lib.hid hq
        have HQ4 := Lib.hid (show M4 ≠ g ∧ M4 ≠ S ∧ M4 ≠ b by have := LM.out; have := LOW.out; omega)
        have R46 := Lib.hid (below_block BP6.out (row_lt (row_boxF R4.out RN.out.fr HQ4.out)) (row_boxF R4.out RN.out.fr HQ4.out))
        have BZL := Lib.hid (show bz < w.heap.size from World.block_lt_of_cell? w _ (hrz 0 _ rfl))
        have ZK := Lib.hid (show (Tryz.prog.info? 38).map (·.size) = some (B8 z.k).length from info_key hok.1)
        have ZW := Lib.hid (show (Tryz.prog.info? 38).map (·.size) = some (W8 z.k).size by rw [W8_size, hok.1]; kernel_rfl)
        have ZS := Lib.hid (show (W8 (List.replicate 32 0)).size = (W8 z.k).size by rw [W8_size, W8_size, hok.1]; rfl)
        have BPD := Lib.hid (show Below wp.heap.size wp w6.drew from BP6.out.drew)
        have TX := Lib.hid (show ∀ W : World, Calls Tryz.prog 52 #[.agg cs.toArray, .bool z.o] W fun e w' => ∃ v, e = .returned v ∧ OwnB w' W.heap.size v (textL y z.o) ∧ Below W.heap.size W w' by intro W; rw [CE.out]; exact text_any W y HY.out z.o)
        have TLN := Lib.hid (textL_length HY.out z.o)
        have ZE := Lib.hid (And.intro hz hok)
        clear hz hok hAz hrz hr6 hq
        go_upto_region 8 with fail
        have W0 := Lib.hid (show w6.drew.heap[bz]? = w6.heap[bz]? ∧ w6.drew.heap[M4]? = w6.heap[M4]? from ⟨rfl, rfl⟩)
        have R11 := Lib.hid (show w6.drew.heap[M11]? = _ from R11.out)
        refine wp_region_road (fun W => W.heap[bz]? = w6.heap[bz]? ∧ W.heap[M4]? = w6.heap[M4]?) [(true, 0), (true, 1), (true, 2), (true, 3), (true, 4), (true, 5), (true, 6), (true, 7), (true, 8), (true, 9), (true, 10), (false, 11), (false, 12), (true, 13)] (by kernel_rfl) (by kernel_rfl) (fun _ _ d _ _ h => by cases d <;> exact h) ?_
        simp only [List.filterMap_cons, List.filterMap_nil, List.getElem?_toArray, List.getElem?_cons_zero, List.getElem?_cons_succ, Option.map_some]
        generalize World.drew w6 = wd at W0 R11 BPD ⊢
        refine planG_q (v := ?_) (by rfl) (W0.out) ?_ ?_
        rotate_left
        · intro W hW
          go_simp
          with_reducible rfl
        simp only [Act.put, List.setIfInBounds_toArray, List.set_cons_zero, List.set_cons_succ]
        refine planG_q (v := ?_) (by rfl) (W0.out) ?_ ?_
        rotate_left
        · intro W hW
          go_simp
          with_reducible rfl
        simp only [Act.put, List.setIfInBounds_toArray, List.set_cons_zero, List.set_cons_succ]
        refine planG_q (by rfl) (W0.out) (fun W hW => run_iaddr_slk 23 (.tmp 25) (.tmp 26) rfl 63 Tryz.underlying23 34 info_mem bz oz q c j JQ.out .i64 _ rfl (by rw [← AE.out]; rfl) rfl W) ?_
        simp only [Act.put, List.setIfInBounds_toArray, List.set_cons_zero, List.set_cons_succ]
        refine planG_q (v := ?_) (by rfl) (W0.out) ?_ ?_
        rotate_left
        · intro W hW
          go_simp
          with_reducible rfl
        simp only [Act.put, List.setIfInBounds_toArray, List.set_cons_zero, List.set_cons_succ]
        refine planG_q (by rfl) (W0.out) (fun W hW => run_load_range 38 (.tmp 28) rfl bz (oz + j * 34 + 1) rfl (B8 z.k) (fun i v hi => cell_same (KR.out i v hi) hW.1) Tryz.underlying38 rfl ZK.out) ?_
        simp only [Act.put, List.setIfInBounds_toArray, List.set_cons_zero, List.set_cons_succ]
        refine planG_q (by rfl) (W0.out) (fun W hW => run_load_range 40 (.tmp 4) rfl M4 0 rfl cs (range_rowL (hW.2.trans R46.out)) Tryz.underlying40 rfl CL.out) ?_
        simp only [Act.put, List.setIfInBounds_toArray, List.set_cons_zero, List.set_cons_succ]
        refine planG_q (v := ?_) (by rfl) (W0.out) ?_ ?_
        rotate_left
        · intro W hW
          go_simp
          with_reducible rfl
        simp only [Act.put, List.setIfInBounds_toArray, List.set_cons_zero, List.set_cons_succ]
        refine planG_q (v := ?_) (by rfl) (W0.out) ?_ ?_
        rotate_left
        · intro W hW
          go_simp
          with_reducible rfl
        simp only [Act.put, List.setIfInBounds_toArray, List.set_cons_zero, List.set_cons_succ]
        refine planG_q (by rfl) (W0.out) (fun W hW => run_iaddr_slk 23 (.tmp 31) (.tmp 32) rfl 63 Tryz.underlying23 34 info_mem bz oz q c j JQ.out .i64 _ rfl (by rw [← AE.out]; rfl) rfl W) ?_
        simp only [Act.put, List.setIfInBounds_toArray, List.set_cons_zero, List.set_cons_succ]
        refine planG_q (v := ?_) (by rfl) (W0.out) ?_ ?_
        rotate_left
        · intro W hW
          go_simp
          with_reducible rfl
        simp only [Act.put, List.setIfInBounds_toArray, List.set_cons_zero, List.set_cons_succ]
        refine planG_q (by rfl) (W0.out) (fun W hW => run_cell 4 (.tmp 34) rfl _ Tryz.underlying4 rfl rfl (cell_same FR.out hW.1)) ?_
        simp only [Act.put, List.setIfInBounds_toArray, List.set_cons_zero, List.set_cons_succ]
        refine planG_t (by rfl) (fun K hK => ?_)
        go_simp
        refine (TX.out wd).mono ?_
        rintro e w7 ⟨v7, rfl, ho, hb⟩
        obtain ⟨At, ct, rfl, hr7, hct, _, ha7⟩ := ho.read
        have B7 := Lib.hid (BPD.out.trans (hb.mono BPD.out.size))
        have T7 := Lib.hid hr7
        have C7 := Lib.hid (show 73 ≤ ct by rw [← TLN.out]; exact hct)
        have AtB := Lib.hid (show ∀ a, At = some a → wp.heap.size ≤ a.block ∧ M11 < a.block from fun a e => by have := (ha7 a e).1; have := row_lt R11.out; have := BPD.out.size; omega)
        have R7 := Lib.hid (below_block hb (row_lt R11.out) R11.out)
        have W7 := Lib.hid (show w7.heap[bz]? = w6.heap[bz]? ∧ w7.heap[M4]? = w6.heap[M4]? from ⟨(hb.block bz (by have := BZL.out; have := BPD.out.size; have := RN.out.fr.1; have := B2.out.size; omega)).trans W0.out.1, (hb.block M4 (by have := BPD.out.size; have := RN.out.fr.1; have := s2.out; omega)).trans W0.out.2⟩)
        rw [TLN.out]
        clear ho hb hr7 hct ha7
        refine hK.out _ _ (W7.out) ?_
        clear hK K
        refine planG_t (by rfl) (fun K hK => ?_)
        refine wp_store_whole 38 (.tmp 11) (.tmp 29) rfl M11 (W8 z.k) rfl rfl _ _ R7.out ZW.out ZS.out (W8_one _) ?_
        intro w8 hr hg hs
        have K8 := Lib.hid hr
        have B8X := Lib.hid (show Below wp.heap.size wp w8 from grown_below_on B7.out hg MG.out.1)
        have W8B := Lib.hid (show w8.heap[bz]? = w6.heap[bz]? ∧ w8.heap[M4]? = w6.heap[M4]? from ⟨(hg.block bz (by have := BZL.out; have := B7.out.size; have := RN.out.fr.1; have := B2.out.size; omega) (fun e => by have := Option.some.inj e; have := BZL.out; have := MG.out.1; have := RN.out.fr.1; have := B2.out.size; omega)).trans W7.out.1, (hg.block M4 (by have := B7.out.size; have := RN.out.fr.1; have := s2.out; omega) (fun e => by have := Option.some.inj e; have := MG.out.1; have := RN.out.fr.1; have := s2.out; omega)).trans W7.out.2⟩)
        have T8 := Lib.hid (show RdB w8 At (textL y z.o) from T7.out.grown hg (fun q' e a ea => by have := (AtB.out a ea).2; have := Option.some.inj e; omega))
        have BX8 := Lib.hid (BX.out.keep B8X.out)
        have RN8 := Lib.hid (RN.out.keep B8X.out)
        have A8S := Lib.hid (show wp.heap.size ≤ w8.heap.size from B8X.out.size)
        have A8B := Lib.hid (show ∀ a, At = some a → wp.heap.size ≤ a.block from fun a e => (AtB.out a e).1)
        clear hr hg hs
        refine hK.out _ _ (W8B.out) ?_
        clear hK K
        refine planG_q (v := ?_) (by rfl) (W8B.out) ?_ ?_
        rotate_left
        · intro W hW
          go_simp
          with_reducible rfl
        simp only [Act.put, List.setIfInBounds_toArray, List.set_cons_zero, List.set_cons_succ]
        refine planG_nil ?_
        have TL := Lib.hid (show (textL y z.o).length = 73 from TLN.out)
        obtain ⟨sX, E, EQ, BXX, KK, TT, KLL, EBS, ETL⟩ : ∃ (sX : BSt) (E : Ent), Hid (entAt y zs j s1 = (sX, E)) ∧ Hid (BoxB w0 g S D b lo sX w8) ∧ Hid (w8.heap[M11]? = some (.cells (W8 E.key) 38 (0, 0))) ∧ Hid (RdB w8 At E.text) ∧ Hid (E.key.length = 32) ∧ Hid (E.beside = wrapB) ∧ Hid (E.text.length = 73) :=
          ⟨_, _, EE, BX8, K8, T8, KL, Lib.hid rfl, TL⟩
        clear EE BX8 K8 T8 KL TLN TL
        as_aux_lemma =>
          go_upto_region 10 with fail
          have ES := Lib.hid (show sX.mode = s1.mode ∧ sX.F = s1.F ∧ sX.u ≤ s1.u + 32 ∧ sX.n = s1.n ∧ sX.m = s1.m by have h1 := @entAt_state y zs j s1; rw [EQ.out] at h1; exact h1)
          have ZE8 := Lib.hid (show (Tryz.prog.info? 38).map (·.size) = some (W8 E.key).size by rw [W8_size, KLL.out]; kernel_rfl)
          refine wp_region_list ?_
          simp only [List.toList_toArray]
          refine wpList_val (v := ?_) (by rfl) ?_ ?_
          rotate_left
          · go_simp
            with_reducible rfl
          simp only [Act.put, List.setIfInBounds_toArray, List.set_cons_zero, List.set_cons_succ]
          refine wpList_val (by rfl) (run_load_row 38 (.tmp 11) rfl M11 rfl 38 (W8 E.key) (0, 0) _ KK.out Tryz.underlying38 rfl ZE8.out) ?_
          simp only [Act.put, List.setIfInBounds_toArray, List.set_cons_zero, List.set_cons_succ]
          refine wpList_op (by rfl) (fun K hK => ?_)
          refine wp_wrap rfl ?_
          generalize hB : Array.size (World.heap w8) = N4
          generalize hw : World.alloc w8 _ = w9
          have B9 := Lib.hid (show Below w8.heap.size w8 w9 by rw [← hw]; exact below_new _ _)
          have R9 := Lib.hid (show w9.heap[N4]? = some (.cells (W8 wrapB) 5 (0, 0)) by rw [← hw]; exact ha_new _ _ _ hB.symm)
          have N4E := Lib.hid hB
          clear hB hw
          refine hK.out _ _ ?_
          clear hK K
          simp only [Act.put, List.setIfInBounds_toArray, List.set_cons_zero, List.set_cons_succ]
          refine wpList_op (by rfl) (fun K hK => ?_)
          refine wp_cv (.tmp 42) rfl R9.out rfl ?_
          intro w10 hr10 hg10 _
          have B10 := Lib.hid (show Below w8.heap.size w8 w10 from grown_below_on B9.out hg10 (by rw [N4E.out]; exact Nat.le_refl _))
          have R10 := Lib.hid (show RdB w10 (some ⟨N4, 0, none⟩) E.beside by rw [EBS.out]; exact RdB.row hr10)
          clear hr10 hg10 R9 B9
          refine hK.out _ _ ?_
          clear hK K
          simp only [Act.put, List.setIfInBounds_toArray, List.set_cons_zero, List.set_cons_succ]
          refine wpList_val (v := ?_) (by rfl) ?_ ?_
          rotate_left
          · go_simp
            with_reducible rfl
          simp only [Act.put, List.setIfInBounds_toArray, List.set_cons_zero, List.set_cons_succ]
          refine wpList_op (by rfl) (fun K hK => ?_)
          go_simp
          refine (bseal_any w0 g S D b lo sX w10 (BXX.out.keep B10.out) (by rw [ES.out.1, BD.out.1]; exact HMO.out) E KLL.out (some ⟨N4, 0, none⟩) 4 4 (by rw [EBS.out]; rfl) R10.out (by omega) At 73 _ ETL.out C7.out (TT.out.keep B10.out)
            (fun _ a e => by have := A8B.out a e; have := LOW.out; have := RN.out.fr.1; have := s2.out; have := LM.out; omega) (by omega) (by have := ES.out.2.2.1; have := BD.out.2.2.1; have := HU.out; have := J8.out; omega) (by rw [ES.out.2.1, BD.out.2.1]; exact HF.out) (by rw [ES.out.2.2.2.2]; have := BD.out.2.2.2.2; have := HM.out; have := J8.out; omega) (by rw [ES.out.2.2.2.1]; have := BD.out.2.2.2.1; have := HN.out; have := J8.out; omega)
            (by have := B10.out.size; have := RN8.out.fr.1; have := s2.out; have := LM.out; omega)).mono ?_
          rintro e w11 ⟨Ax, m, cx, sZ, r, rfl, hse, hrx, hmx, hmc, hax, hbx, hbf⟩
          have RN11 := Lib.hid ((RN8.out.keep B10.out).boxF hbf)
          have BX11 := Lib.hid hbx
          have SE := Lib.hid hse
          have L11 := Lib.hid (show wp.heap.size ≤ w11.heap.size ∧ w10.heap.size ≤ w11.heap.size from ⟨by have := RN8.out.fr.1; have := B10.out.size; have := hbf.1; have := A8S.out; omega, hbf.1⟩)
          have HQ6 := Lib.hid (show M4 + 1 ≠ g ∧ M4 + 1 ≠ S ∧ M4 + 1 ≠ b by have := LM.out; have := LOW.out; omega)
          have R6X := Lib.hid (row_boxF R6.out RN11.out.fr HQ6.out)
          clear hse hbx hbf
          refine hK.out _ _ ?_
          clear hK K
          rcases r with _ | x
          · simp only [Option.isSome_none, Bool.false_eq_true, if_false]
            clear hrx hmx hmc hax
            go_wp2_with (refine wpList_store_whole rfl rfl 35 (.tmp 6) (.tmp 50) rfl (M4 + 1) RingZ rfl rfl 35 _ R6X.out info_ringZ rfl ringZ_one ?_; intro w12 hz12 hg12 _)
            refine ret_cell (M4 + 1) 35 RingZ _ rfl rfl rfl rfl hz12 Tryz.underlying35 rfl info_ringZ ⟨sZ, none, .inl ⟨j, s1, xs, J8.out, WR.out, by rw [EQ.out]; exact SE.out, rfl⟩, BX11.out.grownT hg12 HD.out HW0.out ?_, ?_, rfl⟩
            · rintro q' ⟨⟩
              exact ⟨by have := LM.out; omega, _, _, _, R6X.out, by decide⟩
            · exact (boxF_pre B2.out RN11.out.fr).grown hg12 (fun k e => by cases e; exact .inr (.inr (.inr (by rw [ME.out]; omega))))
          · simp only [Option.isSome_some, if_true]
            have hrx : RdB w11 Ax x := hrx
            have hmx : x.length = m := hmx
            have RX := Lib.hid hrx
            have MX := Lib.hid hmx
            have MC := Lib.hid hmc
            have AX := Lib.hid hax
            clear hrx hmx hmc hax
            go_upto_region 13 with fail
            refine wp_region_list ?_
            simp only [List.toList_toArray]
            refine wpList_val (v := ?_) (by rfl) ?_ ?_
            rotate_left
            · go_simp
              with_reducible rfl
            simp only [Act.put, List.setIfInBounds_toArray, List.set_cons_zero, List.set_cons_succ]
            refine wpList_val (by rfl) (run_cell 33 (.tmp 52) rfl _ Tryz.underlying33 rfl rfl (row_cell RN11.out.row 0 rfl)) ?_
            simp only [Act.put, List.setIfInBounds_toArray, List.set_cons_zero, List.set_cons_succ]
            refine wpList_val (v := ?_) (by rfl) ?_ ?_
            rotate_left
            · go_simp
              with_reducible rfl
            simp only [Act.put, List.setIfInBounds_toArray, List.set_cons_zero, List.set_cons_succ]
            refine wpList_op (by rfl) (fun K hK => ?_)
            refine wp_build_slice (.tmp 54) rfl Ax m cx rfl ?_
            generalize hB : Array.size (World.heap w11) = N5
            generalize hw : World.alloc w11 _ = w12
            have B12 := Lib.hid (show Below w11.heap.size w11 w12 by rw [← hw]; exact below_new _ _)
            have R12 := Lib.hid (show RdV w12 (some ⟨N5, 0, none⟩) [.slice Ax m cx] from RdV.row (t := 22) (fr := (0, 0)) (by rw [← hw]; exact ha_new _ _ _ hB.symm))
            clear hB hw
            refine hK.out _ _ ?_
            clear hK K
            simp only [Act.put, List.setIfInBounds_toArray, List.set_cons_zero, List.set_cons_succ]
            have OV := Lib.hid (RN11.out.own.below B12.out)
            have VL := Lib.hid (show vs.length ≤ 8 by rw [RN11.out.vl, WR.out.len]; have := J8.out; omega)
            refine appV_list rfl TO.out (.tmp 53) (.tmp 55) rfl (M4 + 2 + 1) v vs [.slice Ax m cx] (some ⟨N5, 0, none⟩) 1 1 rfl rfl rfl OV.out R12.out (by intro u hu; simp only [List.mem_cons, List.mem_nil_iff, or_false] at hu; rw [hu]; rfl) ?d3 (by have := VL.out; omega) (by have := VL.out; omega) ?_
            case d3 => have := B12.out.size; have := row_lt RN11.out.row; omega
            intro v3 w13 ho hg hat
            have RM := Lib.hid (show w13.heap[M4 + 2]? = some (.cells #[v, .slice none 0 0] 35 (0, 0)) from grown_block hg (fun e => by have := (RN11.out.own.lt _ e.symm).1; omega) (below_block B12.out (row_lt RN11.out.row) RN11.out.row))
            have O3 := Lib.hid ho
            have G3 := Lib.hid hg
            have AT3 := Lib.hid hat
            obtain ⟨A3, c3, rfl, _, _, _, _⟩ := ho.read
            have TY := Lib.hid (OwnV.typed OV.out)
            clear ho hg hat
            simp only [Act.put, List.setIfInBounds_toArray, List.set_cons_zero, List.set_cons_succ]
            refine wpList_val (v := ?_) (by rfl) ?_ ?_
            rotate_left
            · go_simp
              with_reducible rfl
            simp only [Act.put, List.setIfInBounds_toArray, List.set_cons_zero, List.set_cons_succ]
            refine wpList_op (by rfl) (fun K hK => ?_)
            refine wp_store_slices (.tmp 57) (.tmp 56) rfl (M4 + 2) 0 _ _ _ rfl rfl RM.out (by simp) ?_
            intro w14 hr14 hg14 _
            have RN14 := Lib.hid (RN11.out.next RX.out MX.out MC.out (fun a e => ⟨by have := (AX.out a e).1; have := B10.out.size; have := A8S.out; have := row_lt RN.out.row; omega, (AX.out a e).2, fun e2 => by have := (RN.out.own.lt _ e2.symm).2; have := (AX.out a e).1; have := B10.out.size; have := A8S.out; omega⟩) B12.out O3.out G3.out AT3.out hr14 hg14)
            have BX13 := Lib.hid ((BX11.out.keep B12.out).grownT G3.out HD.out HW0.out (fun q' e => by
              obtain ⟨h1, cur, fr, h2⟩ := TY.out q' e
              exact ⟨by have := LM.out; omega, cur, _, fr, h2, by decide⟩))
            have BX14 := Lib.hid (BX13.out.grownT hg14 HD.out HW0.out (fun q' e => by cases e; exact ⟨by have := LM.out; omega, _, _, _, RM.out, by decide⟩))
            have WR14 := Lib.hid (show WrapsR y zs s (j + 1) sZ (xs ++ [x]) from .succ WR.out (by rw [EQ.out]; exact SE.out))
            clear hr14 hg14
            refine hK.out _ _ ?_
            clear hK K
            simp only [Act.put, List.setIfInBounds_toArray, List.set_cons_zero, List.set_cons_succ]
            go_wp2_with fail
            go_roundw
            case rel => exact ⟨j + 1, sZ, xs ++ [x], _, _, by have := J8.out; omega, by go_num, WR14.out, BX14.out, RN14.out⟩
            case measure => have := J8.out; simp [intOf]; omega
      · have hDq : decide ((j : Int) < (q : Int)) = false := by simp; omega
        have EE := Lib.hid (show entAt y zs j s1 = ({ s1 with u := s1.u + 32 }, ⟨tellS s1.F s1.u 32, wrapB, fullL⟩) by
          unfold entAt
          rw [List.getElem?_eq_none (by rw [Q1.out]; omega)])
        have KL := Lib.hid (show (⟨tellS s1.F s1.u 32, wrapB, fullL⟩ : Ent).key.length = 32 from tellS_length _ _ _)
        go_upto_region 9 with fail
        refine wp_region_list ?_
        simp only [List.toList_toArray]
        refine wpList_val (v := ?_) (by rfl) ?_ ?_
        rotate_left
        · go_simp
          with_reducible rfl
        simp only [Act.put, List.setIfInBounds_toArray, List.set_cons_zero, List.set_cons_succ]
        refine wpList_op (by rfl) (fun K hK => ?_)
        go_simp
        refine (bkey_any w0 g S D b lo s1 w6 (BX.out.keep BP6.out) (by have := BD.out.2.2.1; have := HU.out; have := J8.out; omega) (by rw [BD.out.2.1]; exact HF.out)).mono ?_
        obtain ⟨X, hX⟩ : ∃ X, X = tellS s1.F s1.u 32 := ⟨_, rfl⟩
        have XL := Lib.hid (show X.length = 32 by rw [hX, tellS_length])
        rw [← hX] at EE KL ⊢
        clear hX
        rintro e w7 ⟨rfl, hb7, hg7⟩
        have SL := Lib.hid (show S < wp.heap.size ∧ D < wp.heap.size from ⟨BX.out.src.lt, BX.out.ltD⟩)
        have R7 := Lib.hid (grown_block hg7 (fun e => by have := Option.some.inj e; have := MG.out.1; have := SL.out.1; omega) R11.out)
        have ZW := Lib.hid (show (Tryz.prog.info? 38).map (·.size) = some (W8 X).size by rw [W8_size, XL.out]; kernel_rfl)
        have ZS := Lib.hid (show (W8 (List.replicate 32 0)).size = (W8 X).size by rw [W8_size, W8_size, XL.out]; rfl)
        have SR7 := Lib.hid hb7.src
        have T7 := Lib.hid (RT6.out.grown hg7 (fun q' e a ea => by cases ea; cases e; show GT ≠ S; have := GL.out.1; have := SL.out.1; omega))
        have G7 := Lib.hid (World.grownBy.trans (grown_of_below BP6.out).mono_none hg7)
        clear hb7 hg7
        refine hK.out _ _ ?_
        clear hK K
        refine wpList_op (by rfl) (fun K hK => ?_)
        refine wp_store_whole 38 (.tmp 11) (.tmp 38) rfl M11 (W8 X) rfl rfl _ _ R7.out ZW.out ZS.out (W8_one _) ?_
        intro w8 hr hg hs
        have K8 := Lib.hid hr
        have G8 := Lib.hid (show wp.grownBy w8 (some S) from grown_more G7.out hg (by rintro k ⟨⟩; exact MG.out.1))
        have BX8 := Lib.hid (BX.out.step (SR7.out.far hg (by rintro k ⟨⟩; have := MG.out.1; have := SL.out; omega)) G8.out)
        have RN8 := Lib.hid (RN.out.boxF (boxF_of_grown G8.out))
        have T8 := Lib.hid (show RdB w8 (some ⟨GT, 0, none⟩) fullL from T7.out.grown hg (fun q' e a ea => by cases ea; cases e; show GT ≠ M11; have := MG.out.2; omega))
        have A8S := Lib.hid (show wp.heap.size ≤ w8.heap.size from G8.out.size)
        have A8B := Lib.hid (show ∀ a, (some (⟨GT, 0, none⟩ : Addr)) = some a → wp.heap.size ≤ a.block from fun a e => by cases e; exact GL.out.1)
        have C7 := Lib.hid (Nat.le_refl 73)
        clear hr hg hs
        refine hK.out _ _ ?_
        clear hK K
        simp only [Act.put, List.setIfInBounds_toArray, List.set_cons_zero, List.set_cons_succ]
        have TL := Lib.hid (show fullL.length = 73 from rfl)
        obtain ⟨At, hAt⟩ : ∃ At : Option Addr, At = some ⟨GT, 0, none⟩ := ⟨_, rfl⟩
        rw [← hAt] at T8 A8B ⊢
        clear hAt
        obtain ⟨sX, E, EQ, BXX, KK, TT, KLL, EBS, ETL⟩ : ∃ (sX : BSt) (E : Ent), Hid (entAt y zs j s1 = (sX, E)) ∧ Hid (BoxB w0 g S D b lo sX w8) ∧ Hid (w8.heap[M11]? = some (.cells (W8 E.key) 38 (0, 0))) ∧ Hid (RdB w8 At E.text) ∧ Hid (E.key.length = 32) ∧ Hid (E.beside = wrapB) ∧ Hid (E.text.length = 73) :=
          ⟨_, _, EE, BX8, K8, T8, KL, Lib.hid rfl, TL⟩
        clear EE BX8 K8 T8 KL TL
        as_aux_lemma =>
          go_upto_region 10 with fail
          have ES := Lib.hid (show sX.mode = s1.mode ∧ sX.F = s1.F ∧ sX.u ≤ s1.u + 32 ∧ sX.n = s1.n ∧ sX.m = s1.m by have h1 := @entAt_state y zs j s1; rw [EQ.out] at h1; exact h1)
          have ZE8 := Lib.hid (show (Tryz.prog.info? 38).map (·.size) = some (W8 E.key).size by rw [W8_size, KLL.out]; kernel_rfl)
          refine wp_region_list ?_
          simp only [List.toList_toArray]
          refine wpList_val (v := ?_) (by rfl) ?_ ?_
          rotate_left
          · go_simp
            with_reducible rfl
          simp only [Act.put, List.setIfInBounds_toArray, List.set_cons_zero, List.set_cons_succ]
          refine wpList_val (by rfl) (run_load_row 38 (.tmp 11) rfl M11 rfl 38 (W8 E.key) (0, 0) _ KK.out Tryz.underlying38 rfl ZE8.out) ?_
          simp only [Act.put, List.setIfInBounds_toArray, List.set_cons_zero, List.set_cons_succ]
          refine wpList_op (by rfl) (fun K hK => ?_)
          refine wp_wrap rfl ?_
          generalize hB : Array.size (World.heap w8) = N4
          generalize hw : World.alloc w8 _ = w9
          have B9 := Lib.hid (show Below w8.heap.size w8 w9 by rw [← hw]; exact below_new _ _)
          have R9 := Lib.hid (show w9.heap[N4]? = some (.cells (W8 wrapB) 5 (0, 0)) by rw [← hw]; exact ha_new _ _ _ hB.symm)
          have N4E := Lib.hid hB
          clear hB hw
          refine hK.out _ _ ?_
          clear hK K
          simp only [Act.put, List.setIfInBounds_toArray, List.set_cons_zero, List.set_cons_succ]
          refine wpList_op (by rfl) (fun K hK => ?_)
          refine wp_cv (.tmp 42) rfl R9.out rfl ?_
          intro w10 hr10 hg10 _
          have B10 := Lib.hid (show Below w8.heap.size w8 w10 from grown_below_on B9.out hg10 (by rw [N4E.out]; exact Nat.le_refl _))
          have R10 := Lib.hid (show RdB w10 (some ⟨N4, 0, none⟩) E.beside by rw [EBS.out]; exact RdB.row hr10)
          clear hr10 hg10 R9 B9
          refine hK.out _ _ ?_
          clear hK K
          simp only [Act.put, List.setIfInBounds_toArray, List.set_cons_zero, List.set_cons_succ]
          refine wpList_val (v := ?_) (by rfl) ?_ ?_
          rotate_left
          · go_simp
            with_reducible rfl
          simp only [Act.put, List.setIfInBounds_toArray, List.set_cons_zero, List.set_cons_succ]
          refine wpList_op (by rfl) (fun K hK => ?_)
          go_simp
          refine (bseal_any w0 g S D b lo sX w10 (BXX.out.keep B10.out) (by rw [ES.out.1, BD.out.1]; exact HMO.out) E KLL.out (some ⟨N4, 0, none⟩) 4 4 (by rw [EBS.out]; rfl) R10.out (by omega) At 73 _ ETL.out C7.out (TT.out.keep B10.out)
            (fun _ a e => by have := A8B.out a e; have := LOW.out; have := RN.out.fr.1; have := s2.out; have := LM.out; omega) (by omega) (by have := ES.out.2.2.1; have := BD.out.2.2.1; have := HU.out; have := J8.out; omega) (by rw [ES.out.2.1, BD.out.2.1]; exact HF.out) (by rw [ES.out.2.2.2.2]; have := BD.out.2.2.2.2; have := HM.out; have := J8.out; omega) (by rw [ES.out.2.2.2.1]; have := BD.out.2.2.2.1; have := HN.out; have := J8.out; omega)
            (by have := B10.out.size; have := RN8.out.fr.1; have := s2.out; have := LM.out; omega)).mono ?_
          rintro e w11 ⟨Ax, m, cx, sZ, r, rfl, hse, hrx, hmx, hmc, hax, hbx, hbf⟩
          have RN11 := Lib.hid ((RN8.out.keep B10.out).boxF hbf)
          have BX11 := Lib.hid hbx
          have SE := Lib.hid hse
          have L11 := Lib.hid (show wp.heap.size ≤ w11.heap.size ∧ w10.heap.size ≤ w11.heap.size from ⟨by have := RN8.out.fr.1; have := B10.out.size; have := hbf.1; have := A8S.out; omega, hbf.1⟩)
          have HQ6 := Lib.hid (show M4 + 1 ≠ g ∧ M4 + 1 ≠ S ∧ M4 + 1 ≠ b by have := LM.out; have := LOW.out; omega)
          have R6X := Lib.hid (row_boxF R6.out RN11.out.fr HQ6.out)
          clear hse hbx hbf
          refine hK.out _ _ ?_
          clear hK K
          rcases r with _ | x
          · simp only [Option.isSome_none, Bool.false_eq_true, if_false]
            clear hrx hmx hmc hax
            go_wp2_with (refine wpList_store_whole rfl rfl 35 (.tmp 6) (.tmp 50) rfl (M4 + 1) RingZ rfl rfl 35 _ R6X.out info_ringZ rfl ringZ_one ?_; intro w12 hz12 hg12 _)
            refine ret_cell (M4 + 1) 35 RingZ _ rfl rfl rfl rfl hz12 Tryz.underlying35 rfl info_ringZ ⟨sZ, none, .inl ⟨j, s1, xs, J8.out, WR.out, by rw [EQ.out]; exact SE.out, rfl⟩, BX11.out.grownT hg12 HD.out HW0.out ?_, ?_, rfl⟩
            · rintro q' ⟨⟩
              exact ⟨by have := LM.out; omega, _, _, _, R6X.out, by decide⟩
            · exact (boxF_pre B2.out RN11.out.fr).grown hg12 (fun k e => by cases e; exact .inr (.inr (.inr (by rw [ME.out]; omega))))
          · simp only [Option.isSome_some, if_true]
            have hrx : RdB w11 Ax x := hrx
            have hmx : x.length = m := hmx
            have RX := Lib.hid hrx
            have MX := Lib.hid hmx
            have MC := Lib.hid hmc
            have AX := Lib.hid hax
            clear hrx hmx hmc hax
            go_upto_region 13 with fail
            refine wp_region_list ?_
            simp only [List.toList_toArray]
            refine wpList_val (v := ?_) (by rfl) ?_ ?_
            rotate_left
            · go_simp
              with_reducible rfl
            simp only [Act.put, List.setIfInBounds_toArray, List.set_cons_zero, List.set_cons_succ]
            refine wpList_val (by rfl) (run_cell 33 (.tmp 52) rfl _ Tryz.underlying33 rfl rfl (row_cell RN11.out.row 0 rfl)) ?_
            simp only [Act.put, List.setIfInBounds_toArray, List.set_cons_zero, List.set_cons_succ]
            refine wpList_val (v := ?_) (by rfl) ?_ ?_
            rotate_left
            · go_simp
              with_reducible rfl
            simp only [Act.put, List.setIfInBounds_toArray, List.set_cons_zero, List.set_cons_succ]
            refine wpList_op (by rfl) (fun K hK => ?_)
            refine wp_build_slice (.tmp 54) rfl Ax m cx rfl ?_
            generalize hB : Array.size (World.heap w11) = N5
            generalize hw : World.alloc w11 _ = w12
            have B12 := Lib.hid (show Below w11.heap.size w11 w12 by rw [← hw]; exact below_new _ _)
            have R12 := Lib.hid (show RdV w12 (some ⟨N5, 0, none⟩) [.slice Ax m cx] from RdV.row (t := 22) (fr := (0, 0)) (by rw [← hw]; exact ha_new _ _ _ hB.symm))
            clear hB hw
            refine hK.out _ _ ?_
            clear hK K
            simp only [Act.put, List.setIfInBounds_toArray, List.set_cons_zero, List.set_cons_succ]
            have OV := Lib.hid (RN11.out.own.below B12.out)
            have VL := Lib.hid (show vs.length ≤ 8 by rw [RN11.out.vl, WR.out.len]; have := J8.out; omega)
            refine appV_list rfl TO.out (.tmp 53) (.tmp 55) rfl (M4 + 2 + 1) v vs [.slice Ax m cx] (some ⟨N5, 0, none⟩) 1 1 rfl rfl rfl OV.out R12.out (by intro u hu; simp only [List.mem_cons, List.mem_nil_iff, or_false] at hu; rw [hu]; rfl) ?d3 (by have := VL.out; omega) (by have := VL.out; omega) ?_
            case d3 => have := B12.out.size; have := row_lt RN11.out.row; omega
            intro v3 w13 ho hg hat
            have RM := Lib.hid (show w13.heap[M4 + 2]? = some (.cells #[v, .slice none 0 0] 35 (0, 0)) from grown_block hg (fun e => by have := (RN11.out.own.lt _ e.symm).1; omega) (below_block B12.out (row_lt RN11.out.row) RN11.out.row))
            have O3 := Lib.hid ho
            have G3 := Lib.hid hg
            have AT3 := Lib.hid hat
            obtain ⟨A3, c3, rfl, _, _, _, _⟩ := ho.read
            have TY := Lib.hid (OwnV.typed OV.out)
            clear ho hg hat
            simp only [Act.put, List.setIfInBounds_toArray, List.set_cons_zero, List.set_cons_succ]
            refine wpList_val (v := ?_) (by rfl) ?_ ?_
            rotate_left
            · go_simp
              with_reducible rfl
            simp only [Act.put, List.setIfInBounds_toArray, List.set_cons_zero, List.set_cons_succ]
            refine wpList_op (by rfl) (fun K hK => ?_)
            refine wp_store_slices (.tmp 57) (.tmp 56) rfl (M4 + 2) 0 _ _ _ rfl rfl RM.out (by simp) ?_
            intro w14 hr14 hg14 _
            have RN14 := Lib.hid (RN11.out.next RX.out MX.out MC.out (fun a e => ⟨by have := (AX.out a e).1; have := B10.out.size; have := A8S.out; have := row_lt RN.out.row; omega, (AX.out a e).2, fun e2 => by have := (RN.out.own.lt _ e2.symm).2; have := (AX.out a e).1; have := B10.out.size; have := A8S.out; omega⟩) B12.out O3.out G3.out AT3.out hr14 hg14)
            have BX13 := Lib.hid ((BX11.out.keep B12.out).grownT G3.out HD.out HW0.out (fun q' e => by
              obtain ⟨h1, cur, fr, h2⟩ := TY.out q' e
              exact ⟨by have := LM.out; omega, cur, _, fr, h2, by decide⟩))
            have BX14 := Lib.hid (BX13.out.grownT hg14 HD.out HW0.out (fun q' e => by cases e; exact ⟨by have := LM.out; omega, _, _, _, RM.out, by decide⟩))
            have WR14 := Lib.hid (show WrapsR y zs s (j + 1) sZ (xs ++ [x]) from .succ WR.out (by rw [EQ.out]; exact SE.out))
            clear hr14 hg14
            refine hK.out _ _ ?_
            clear hK K
            simp only [Act.put, List.setIfInBounds_toArray, List.set_cons_zero, List.set_cons_succ]
            go_wp2_with fail
            go_roundw
            case rel => exact ⟨j + 1, sZ, xs ++ [x], _, _, by have := J8.out; omega, by go_num, WR14.out, BX14.out, RN14.out⟩
            case measure => have := J8.out; simp [intOf]; omega
    · obtain rfl : j = 8 := by have := J.out; omega
      clear hlt
      have HQ4 := Lib.hid (show M4 ≠ g ∧ M4 ≠ S ∧ M4 ≠ b by have := LM.out; have := LOW.out; omega)
      have R4P := Lib.hid (row_boxF R4.out RN.out.fr HQ4.out)
      have RO := Lib.hid (rangeK_o (y := y) (W := wp) (b := M4) (o := 0) (by rw [← CE.out]; exact range_rowL R4P.out) HY.out.1)
      have ZK := Lib.hid (info_key HY.out.2)
      have RP := Lib.hid ((HR.out.keep B2.out).boxF RN.out.fr HA.out)
      have DX := Lib.hid (show ∀ W : World, RdM W A zs → Calls Tryz.prog 45 #[.slice A q c] W fun e w' => ∃ v, e = .returned v ∧ OwnB w' W.heap.size v (dirL zs) ∧ Below W.heap.size W w' by intro W hR; rw [← Q1.out]; exact dir_any W A c zs hR (by rw [Q1.out]; exact Q8.out) HNN.out)
      have DL := Lib.hid (dirL_length HR.out.ok (show zs.length ≤ 8 by rw [Q1.out]; exact Q8.out))
      have HQ6 := Lib.hid (show M4 + 1 ≠ g ∧ M4 + 1 ≠ S ∧ M4 + 1 ≠ b by have := LM.out; have := LOW.out; omega)
      go_upto_region 15 with fail
      have C4 := Lib.hid (show wp.drew.heap[M4]? = some (.cells cs.toArray 40 (0, 0)) from R4P.out)
      have BWD := Lib.hid (show Below wp.heap.size wp wp.drew from (Below.refl _ _).drew)
      refine wp_region_tree (fun W => W.heap[M4]? = some (.cells cs.toArray 40 (0, 0))) (.q 0 (.q 1 (.q 2 (.q 5 (.two 3 (.two 4 (.t 6 (.t 7 (.q 8 (.q 9 (.q 10 (.q 11 (.q 12 .done))))))) 6 (.t 4 (.t 7 (.q 8 (.q 9 (.q 10 (.q 11 (.q 12 .done)))))))) 6 (.t 3 (.t 4 (.t 7 (.q 8 (.q 9 (.q 10 (.q 11 (.q 12 .done))))))))))))) (by kernel_rfl) (by kernel_rfl) (fun _ _ d _ _ h => by cases d <;> exact h) ?_
      generalize World.drew wp = wd at C4 BWD ⊢
      have Z := Lib.hid (Below.refl wd.heap.size wd)
      have M4L := Lib.hid (row_lt C4.out)
      refine road_q (v := ?_) rfl rfl (C4.out) ?_ ?_
      rotate_left
      · intro W hW
        go_simp
        with_reducible rfl
      simp only [Act.put, List.setIfInBounds_toArray, List.set_cons_zero, List.set_cons_succ]
      refine road_q (v := ?_) rfl rfl (C4.out) ?_ ?_
      rotate_left
      · intro W hW
        go_simp
        with_reducible rfl
      simp only [Act.put, List.setIfInBounds_toArray, List.set_cons_zero, List.set_cons_succ]
      refine road_q rfl rfl (C4.out) (fun W hW => run_load_range 38 (.tmp 61) rfl M4 33 rfl (B8 y.o) (by have h1 := rangeK_o (y := y) (W := W) (b := M4) (o := 0) (by rw [← CE.out]; exact range_rowL hW) HY.out.1; rwa [Nat.zero_add] at h1) Tryz.underlying38 rfl ZK.out) ?_
      simp only [Act.put, List.setIfInBounds_toArray, List.set_cons_zero, List.set_cons_succ]
      refine road_q (v := ?_) rfl rfl (C4.out) ?_ ?_
      rotate_left
      · intro W hW
        go_simp
        with_reducible rfl
      simp only [Act.put, List.setIfInBounds_toArray, List.set_cons_zero, List.set_cons_succ]
      refine road_two ?_ ?_
      ·
        refine road_t rfl rfl (fun K hK => ?_)
        refine wp_dir rfl ?_
        generalize hB : Array.size (World.heap _) = N3
        generalize hw : World.alloc _ _ = wn
        have hb := Lib.hid (show Below _ _ wn by rw [← hw]; exact below_new _ _)
        have R3 := Lib.hid (show wn.heap[N3]? = some (.cells (W8 dirB) 5 (0, 0)) by rw [← hw]; exact ha_new _ _ _ hB.symm)
        have N3L := Lib.hid (show wd.heap.size ≤ N3 by rw [← hB]; exact Z.out.size)
        try have ND := Lib.hid (show ∀ a, Ad = some a → a.block ≠ N3 by intro a e; have := (AD.out a e).2; omega)
        try have RDD := Lib.hid (RDD.out.keep hb.out)
        have Z := Lib.hid (Z.out.trans (hb.out.mono Z.out.size))
        have C4 := Lib.hid (below_block hb.out (row_lt C4.out) C4.out)
        clear hB hw hb
        refine hK.out _ _ (C4.out) ?_
        clear hK K
        refine road_two ?_ ?_
        ·
          refine road_t rfl rfl (fun K hK => ?_)
          refine wp_cv (.tmp 63) rfl R3.out rfl ?_
          intro wc hr hg _
          have RDB := Lib.hid (show RdB wc (some ⟨N3, 0, none⟩) dirB from RdB.row hr)
          try have RDD := Lib.hid (RDD.out.grown hg (fun q' e a ea => by cases e; exact ND.out a ea))
          have Z := Lib.hid (grown_below_on Z.out hg N3L.out)
          have C4 := Lib.hid (grown_block hg (fun e => by have := Option.some.inj e; have := N3L.out; have := M4L.out; omega) C4.out)
          clear hr hg R3
          refine hK.out _ _ (C4.out) ?_
          clear hK K
          refine road_t rfl rfl (fun K hK => ?_)
          go_simp
          refine (DX.out _ ((RP.out.keep BWD.out).keep Z.out)).mono ?_
          rintro e wz ⟨v6, rfl, ho, hb⟩
          obtain ⟨Ad, cd, rfl, hrd, hcd, _, had⟩ := ho.read
          rw [DL.out]
          have RDD := Lib.hid hrd
          have CDD := Lib.hid (show 273 ≤ cd by rw [← DL.out]; exact hcd)
          have AD := Lib.hid (show ∀ a, Ad = some a → wd.heap.size ≤ a.block ∧ a.block < wz.heap.size from fun a e => ⟨Nat.le_trans Z.out.size (had a e).1, (had a e).2⟩)
          try have ND := Lib.hid (show ∀ a, Ad = some a → a.block ≠ N3 by intro a e; have := (had a e).1; have := row_lt R3.out; omega)
          try have R3 := Lib.hid (below_block hb (row_lt R3.out) R3.out)
          try have RDB := Lib.hid (RDB.out.keep hb)
          have Z := Lib.hid (Z.out.trans (hb.mono Z.out.size))
          have C4 := Lib.hid (below_block hb (row_lt C4.out) C4.out)
          clear ho hb hrd hcd had
          refine hK.out _ _ (C4.out) ?_
          clear hK K
          refine road_t rfl rfl (fun K hK => ?_)
          go_simp
          refine (bseal_any w0 g S D b lo s1 _ ((BX.out.keep BWD.out).keep Z.out) (by rw [BD.out.1]; exact HMO.out) (dirE y zs) HY.out.2 (some ⟨N3, 0, none⟩) 3 3 rfl RDB.out (by omega) Ad 273 cd DL.out CDD.out RDD.out
            (fun _ a e => by have := (AD.out a e).1; have := LOW.out; have := BWD.out.size; have := RN.out.fr.1; have := s2.out; have := LM.out; omega) (by omega) (by have := BD.out.2.2.1; have := HU.out; omega) (by rw [BD.out.2.1]; exact HF.out) (by have := BD.out.2.2.2.2; have := HM.out; omega) (by have := BD.out.2.2.2.1; have := HN.out; omega)
            (by have := Z.out.size; have := BWD.out.size; have := RN.out.fr.1; have := s2.out; have := LM.out; omega)).mono ?_
          rintro e w11 ⟨Ax, m, cx, sZ, r, rfl, hse, hrx, hmx, hmc, hax, hbx, hbf⟩
          have RN11 := Lib.hid (((RN.out.keep BWD.out).keep Z.out).boxF hbf)
          have BX11 := Lib.hid hbx
          have SE := Lib.hid hse
          have C4 := Lib.hid (row_boxF C4.out hbf HQ4.out)
          have R6X := Lib.hid (row_boxF R6.out RN11.out.fr HQ6.out)
          have RX := Lib.hid hrx
          have MX := Lib.hid hmx
          have MC := Lib.hid hmc
          have AX := Lib.hid (show ∀ a, Ax = some a → wp.heap.size ≤ a.block ∧ a.block < w11.heap.size from fun a e => ⟨Nat.le_trans BWD.out.size (Nat.le_trans Z.out.size (hax a e).1), (hax a e).2⟩)
          clear hse hrx hmx hmc hax hbx hbf
          refine hK.out _ _ (C4.out) ?_
          clear hK K
          refine road_q (v := ?_) rfl rfl (C4.out) ?_ ?_
          rotate_left
          · intro W hW
            go_simp
            with_reducible rfl
          simp only [Act.put, List.setIfInBounds_toArray, List.set_cons_zero, List.set_cons_succ]
          refine road_q (v := ?_) rfl rfl (C4.out) ?_ ?_
          rotate_left
          · intro W hW
            go_simp
            with_reducible rfl
          simp only [Act.put, List.setIfInBounds_toArray, List.set_cons_zero, List.set_cons_succ]
          refine road_q (v := ?_) rfl rfl (C4.out) ?_ ?_
          rotate_left
          · intro W hW
            go_simp
            with_reducible rfl
          simp only [Act.put, List.setIfInBounds_toArray, List.set_cons_zero, List.set_cons_succ]
          refine road_q (v := ?_) rfl rfl (C4.out) ?_ ?_
          rotate_left
          · intro W hW
            go_simp
            with_reducible rfl
          simp only [Act.put, List.setIfInBounds_toArray, List.set_cons_zero, List.set_cons_succ]
          refine road_q (v := ?_) rfl rfl (C4.out) ?_ ?_
          rotate_left
          · intro W hW
            go_simp
            with_reducible rfl
          simp only [Act.put, List.setIfInBounds_toArray, List.set_cons_zero, List.set_cons_succ]
          refine road_done ?_
          rcases r with _ | x
          · simp only [Option.isSome_none, Bool.false_eq_true, if_false]
            go_wp2_with (refine wpList_store_whole rfl rfl 35 (.tmp 6) (.tmp 72) rfl (M4 + 1) RingZ rfl rfl 35 _ R6X.out info_ringZ rfl ringZ_one ?_; intro w12 hz12 hg12 _)
            refine ret_cell (M4 + 1) 35 RingZ _ rfl rfl rfl rfl hz12 Tryz.underlying35 rfl info_ringZ ⟨sZ, none, .inr (.inl ⟨s1, xs, WR.out, SE.out, rfl⟩), BX11.out.grownT hg12 HD.out HW0.out ?_, ?_, rfl⟩
            · rintro q' ⟨⟩
              exact ⟨by have := LM.out; omega, _, _, _, R6X.out, by decide⟩
            · exact (boxF_pre B2.out RN11.out.fr).grown hg12 (fun k e => by cases e; exact .inr (.inr (.inr (by rw [ME.out]; omega))))
          · simp only [Option.isSome_some, if_true]
            have RX := Lib.hid (show RdB w11 Ax x from RX.out)
            have MX := Lib.hid (show x.length = m from MX.out)
            obtain ⟨Av, cv, hv, _, _, _, _⟩ := RN11.out.own.read
            have VE := Lib.hid hv
            clear hv
            go_upto_region 18 with fail
            refine wp_region_list ?_
            simp only [List.toList_toArray]
            refine wpList_val (v := ?_) (by rfl) ?_ ?_
            rotate_left
            · go_simp
              with_reducible rfl
            simp only [Act.put, List.setIfInBounds_toArray, List.set_cons_zero, List.set_cons_succ]
            refine wpList_val (v := ?_) (by rfl) ?_ ?_
            rotate_left
            · go_simp
              with_reducible rfl
            simp only [Act.put, List.setIfInBounds_toArray, List.set_cons_zero, List.set_cons_succ]
            refine wpList_op (by rfl) (fun K hK => ?_)
            refine wp_store_bytes (.tmp 75) (.tmp 74) rfl (M4 + 2) 1 _ _ _ rfl rfl RN11.out.row (by simp) ?_
            intro w12 hr12 hg12 _
            have R12 := Lib.hid (show w12.heap[M4 + 2]? = some (.cells #[v, .slice Ax m cx] 35 (0, 0)) from hr12)
            have R6Y := Lib.hid (grown_block hg12 (fun e => by have := Option.some.inj e; omega) R6X.out)
            have BX12 := Lib.hid (BX11.out.grownT hg12 HD.out HW0.out (fun q' e => by cases e; exact ⟨by have := LM.out; omega, _, _, _, RN11.out.row, by decide⟩))
            have F12 := Lib.hid ((boxF_pre B2.out RN11.out.fr).grown hg12 (fun k e => by cases e; exact .inr (.inr (.inr (by rw [ME.out]; omega)))))
            have RG11 := Lib.hid (RN11.out.ring (BoxF.refl g S b w11) RX.out MX.out MC.out (fun a e => by have := (AX.out a e).1; have := row_lt RN.out.row; have := (AX.out a e).2; omega))
            have RG12 := Lib.hid (RG11.out.grown hg12 (by omega))
            have ONE := Lib.hid (show (#[v, .slice Ax m cx] : Array Value).all (·.oneCell') = true by rw [VE.out]; simp [Value.oneCell'])
            clear hr12 hg12
            refine hK.out _ _ ?_
            clear hK K
            simp only [Act.put, List.setIfInBounds_toArray, List.set_cons_zero, List.set_cons_succ]
            go_upto_region 19 with fail
            refine wp_region_list ?_
            simp only [List.toList_toArray]
            refine wpList_val (by rfl) (run_load_row 35 (.tmp 8) rfl (M4 + 2) rfl 35 #[v, .slice Ax m cx] (0, 0) _ R12.out Tryz.underlying35 rfl info_ring) ?_
            simp only [Act.put, List.setIfInBounds_toArray, List.set_cons_zero, List.set_cons_succ]
            refine wpList_store_whole rfl rfl 35 (.tmp 6) (.tmp 76) rfl (M4 + 1) #[v, .slice Ax m cx] rfl rfl 35 _ R6Y.out info_ring rfl ONE.out ?_
            intro w13 hz13 hg13 _
            have BX13 := Lib.hid (BX12.out.grownT hg13 HD.out HW0.out (fun q' e => by cases e; exact ⟨by have := LM.out; omega, _, _, _, R6Y.out, by decide⟩))
            have F13 := Lib.hid (F12.out.grown hg13 (fun k e => by cases e; exact .inr (.inr (.inr (by rw [ME.out]; omega)))))
            have RG13 := Lib.hid ((RG12.out.grown hg13 (by omega)).low (show w.heap.size ≤ M4 + 2 + 1 by rw [ME.out]; omega))
            have Z13 := Lib.hid hz13
            clear hz13 hg13
            go_wp2_with fail
            exact ret_cell (M4 + 1) 35 #[v, .slice Ax m cx] _ rfl rfl rfl rfl Z13.out Tryz.underlying35 rfl info_ring ⟨sZ, some (xs, x), .inr (.inr ⟨s1, xs, x, WR.out, SE.out, rfl⟩), BX13.out, F13.out, _, rfl, RG13.out⟩
        ·
          refine road_t rfl rfl (fun K hK => ?_)
          go_simp
          refine (DX.out _ ((RP.out.keep BWD.out).keep Z.out)).mono ?_
          rintro e wz ⟨v6, rfl, ho, hb⟩
          obtain ⟨Ad, cd, rfl, hrd, hcd, _, had⟩ := ho.read
          rw [DL.out]
          have RDD := Lib.hid hrd
          have CDD := Lib.hid (show 273 ≤ cd by rw [← DL.out]; exact hcd)
          have AD := Lib.hid (show ∀ a, Ad = some a → wd.heap.size ≤ a.block ∧ a.block < wz.heap.size from fun a e => ⟨Nat.le_trans Z.out.size (had a e).1, (had a e).2⟩)
          try have ND := Lib.hid (show ∀ a, Ad = some a → a.block ≠ N3 by intro a e; have := (had a e).1; have := row_lt R3.out; omega)
          try have R3 := Lib.hid (below_block hb (row_lt R3.out) R3.out)
          try have RDB := Lib.hid (RDB.out.keep hb)
          have Z := Lib.hid (Z.out.trans (hb.mono Z.out.size))
          have C4 := Lib.hid (below_block hb (row_lt C4.out) C4.out)
          clear ho hb hrd hcd had
          refine hK.out _ _ (C4.out) ?_
          clear hK K
          refine road_t rfl rfl (fun K hK => ?_)
          refine wp_cv (.tmp 63) rfl R3.out rfl ?_
          intro wc hr hg _
          have RDB := Lib.hid (show RdB wc (some ⟨N3, 0, none⟩) dirB from RdB.row hr)
          try have RDD := Lib.hid (RDD.out.grown hg (fun q' e a ea => by cases e; exact ND.out a ea))
          have Z := Lib.hid (grown_below_on Z.out hg N3L.out)
          have C4 := Lib.hid (grown_block hg (fun e => by have := Option.some.inj e; have := N3L.out; have := M4L.out; omega) C4.out)
          clear hr hg R3
          refine hK.out _ _ (C4.out) ?_
          clear hK K
          refine road_t rfl rfl (fun K hK => ?_)
          go_simp
          refine (bseal_any w0 g S D b lo s1 _ ((BX.out.keep BWD.out).keep Z.out) (by rw [BD.out.1]; exact HMO.out) (dirE y zs) HY.out.2 (some ⟨N3, 0, none⟩) 3 3 rfl RDB.out (by omega) Ad 273 cd DL.out CDD.out RDD.out
            (fun _ a e => by have := (AD.out a e).1; have := LOW.out; have := BWD.out.size; have := RN.out.fr.1; have := s2.out; have := LM.out; omega) (by omega) (by have := BD.out.2.2.1; have := HU.out; omega) (by rw [BD.out.2.1]; exact HF.out) (by have := BD.out.2.2.2.2; have := HM.out; omega) (by have := BD.out.2.2.2.1; have := HN.out; omega)
            (by have := Z.out.size; have := BWD.out.size; have := RN.out.fr.1; have := s2.out; have := LM.out; omega)).mono ?_
          rintro e w11 ⟨Ax, m, cx, sZ, r, rfl, hse, hrx, hmx, hmc, hax, hbx, hbf⟩
          have RN11 := Lib.hid (((RN.out.keep BWD.out).keep Z.out).boxF hbf)
          have BX11 := Lib.hid hbx
          have SE := Lib.hid hse
          have C4 := Lib.hid (row_boxF C4.out hbf HQ4.out)
          have R6X := Lib.hid (row_boxF R6.out RN11.out.fr HQ6.out)
          have RX := Lib.hid hrx
          have MX := Lib.hid hmx
          have MC := Lib.hid hmc
          have AX := Lib.hid (show ∀ a, Ax = some a → wp.heap.size ≤ a.block ∧ a.block < w11.heap.size from fun a e => ⟨Nat.le_trans BWD.out.size (Nat.le_trans Z.out.size (hax a e).1), (hax a e).2⟩)
          clear hse hrx hmx hmc hax hbx hbf
          refine hK.out _ _ (C4.out) ?_
          clear hK K
          refine road_q (v := ?_) rfl rfl (C4.out) ?_ ?_
          rotate_left
          · intro W hW
            go_simp
            with_reducible rfl
          simp only [Act.put, List.setIfInBounds_toArray, List.set_cons_zero, List.set_cons_succ]
          refine road_q (v := ?_) rfl rfl (C4.out) ?_ ?_
          rotate_left
          · intro W hW
            go_simp
            with_reducible rfl
          simp only [Act.put, List.setIfInBounds_toArray, List.set_cons_zero, List.set_cons_succ]
          refine road_q (v := ?_) rfl rfl (C4.out) ?_ ?_
          rotate_left
          · intro W hW
            go_simp
            with_reducible rfl
          simp only [Act.put, List.setIfInBounds_toArray, List.set_cons_zero, List.set_cons_succ]
          refine road_q (v := ?_) rfl rfl (C4.out) ?_ ?_
          rotate_left
          · intro W hW
            go_simp
            with_reducible rfl
          simp only [Act.put, List.setIfInBounds_toArray, List.set_cons_zero, List.set_cons_succ]
          refine road_q (v := ?_) rfl rfl (C4.out) ?_ ?_
          rotate_left
          · intro W hW
            go_simp
            with_reducible rfl
          simp only [Act.put, List.setIfInBounds_toArray, List.set_cons_zero, List.set_cons_succ]
          refine road_done ?_
          rcases r with _ | x
          · simp only [Option.isSome_none, Bool.false_eq_true, if_false]
            go_wp2_with (refine wpList_store_whole rfl rfl 35 (.tmp 6) (.tmp 72) rfl (M4 + 1) RingZ rfl rfl 35 _ R6X.out info_ringZ rfl ringZ_one ?_; intro w12 hz12 hg12 _)
            refine ret_cell (M4 + 1) 35 RingZ _ rfl rfl rfl rfl hz12 Tryz.underlying35 rfl info_ringZ ⟨sZ, none, .inr (.inl ⟨s1, xs, WR.out, SE.out, rfl⟩), BX11.out.grownT hg12 HD.out HW0.out ?_, ?_, rfl⟩
            · rintro q' ⟨⟩
              exact ⟨by have := LM.out; omega, _, _, _, R6X.out, by decide⟩
            · exact (boxF_pre B2.out RN11.out.fr).grown hg12 (fun k e => by cases e; exact .inr (.inr (.inr (by rw [ME.out]; omega))))
          · simp only [Option.isSome_some, if_true]
            have RX := Lib.hid (show RdB w11 Ax x from RX.out)
            have MX := Lib.hid (show x.length = m from MX.out)
            obtain ⟨Av, cv, hv, _, _, _, _⟩ := RN11.out.own.read
            have VE := Lib.hid hv
            clear hv
            go_upto_region 18 with fail
            refine wp_region_list ?_
            simp only [List.toList_toArray]
            refine wpList_val (v := ?_) (by rfl) ?_ ?_
            rotate_left
            · go_simp
              with_reducible rfl
            simp only [Act.put, List.setIfInBounds_toArray, List.set_cons_zero, List.set_cons_succ]
            refine wpList_val (v := ?_) (by rfl) ?_ ?_
            rotate_left
            · go_simp
              with_reducible rfl
            simp only [Act.put, List.setIfInBounds_toArray, List.set_cons_zero, List.set_cons_succ]
            refine wpList_op (by rfl) (fun K hK => ?_)
            refine wp_store_bytes (.tmp 75) (.tmp 74) rfl (M4 + 2) 1 _ _ _ rfl rfl RN11.out.row (by simp) ?_
            intro w12 hr12 hg12 _
            have R12 := Lib.hid (show w12.heap[M4 + 2]? = some (.cells #[v, .slice Ax m cx] 35 (0, 0)) from hr12)
            have R6Y := Lib.hid (grown_block hg12 (fun e => by have := Option.some.inj e; omega) R6X.out)
            have BX12 := Lib.hid (BX11.out.grownT hg12 HD.out HW0.out (fun q' e => by cases e; exact ⟨by have := LM.out; omega, _, _, _, RN11.out.row, by decide⟩))
            have F12 := Lib.hid ((boxF_pre B2.out RN11.out.fr).grown hg12 (fun k e => by cases e; exact .inr (.inr (.inr (by rw [ME.out]; omega)))))
            have RG11 := Lib.hid (RN11.out.ring (BoxF.refl g S b w11) RX.out MX.out MC.out (fun a e => by have := (AX.out a e).1; have := row_lt RN.out.row; have := (AX.out a e).2; omega))
            have RG12 := Lib.hid (RG11.out.grown hg12 (by omega))
            have ONE := Lib.hid (show (#[v, .slice Ax m cx] : Array Value).all (·.oneCell') = true by rw [VE.out]; simp [Value.oneCell'])
            clear hr12 hg12
            refine hK.out _ _ ?_
            clear hK K
            simp only [Act.put, List.setIfInBounds_toArray, List.set_cons_zero, List.set_cons_succ]
            go_upto_region 19 with fail
            refine wp_region_list ?_
            simp only [List.toList_toArray]
            refine wpList_val (by rfl) (run_load_row 35 (.tmp 8) rfl (M4 + 2) rfl 35 #[v, .slice Ax m cx] (0, 0) _ R12.out Tryz.underlying35 rfl info_ring) ?_
            simp only [Act.put, List.setIfInBounds_toArray, List.set_cons_zero, List.set_cons_succ]
            refine wpList_store_whole rfl rfl 35 (.tmp 6) (.tmp 76) rfl (M4 + 1) #[v, .slice Ax m cx] rfl rfl 35 _ R6Y.out info_ring rfl ONE.out ?_
            intro w13 hz13 hg13 _
            have BX13 := Lib.hid (BX12.out.grownT hg13 HD.out HW0.out (fun q' e => by cases e; exact ⟨by have := LM.out; omega, _, _, _, R6Y.out, by decide⟩))
            have F13 := Lib.hid (F12.out.grown hg13 (fun k e => by cases e; exact .inr (.inr (.inr (by rw [ME.out]; omega)))))
            have RG13 := Lib.hid ((RG12.out.grown hg13 (by omega)).low (show w.heap.size ≤ M4 + 2 + 1 by rw [ME.out]; omega))
            have Z13 := Lib.hid hz13
            clear hz13 hg13
            go_wp2_with fail
            exact ret_cell (M4 + 1) 35 #[v, .slice Ax m cx] _ rfl rfl rfl rfl Z13.out Tryz.underlying35 rfl info_ring ⟨sZ, some (xs, x), .inr (.inr ⟨s1, xs, x, WR.out, SE.out, rfl⟩), BX13.out, F13.out, _, rfl, RG13.out⟩
      ·
        refine road_t rfl rfl (fun K hK => ?_)
        go_simp
        refine (DX.out _ ((RP.out.keep BWD.out).keep Z.out)).mono ?_
        rintro e wz ⟨v6, rfl, ho, hb⟩
        obtain ⟨Ad, cd, rfl, hrd, hcd, _, had⟩ := ho.read
        rw [DL.out]
        have RDD := Lib.hid hrd
        have CDD := Lib.hid (show 273 ≤ cd by rw [← DL.out]; exact hcd)
        have AD := Lib.hid (show ∀ a, Ad = some a → wd.heap.size ≤ a.block ∧ a.block < wz.heap.size from fun a e => ⟨Nat.le_trans Z.out.size (had a e).1, (had a e).2⟩)
        try have ND := Lib.hid (show ∀ a, Ad = some a → a.block ≠ N3 by intro a e; have := (had a e).1; have := row_lt R3.out; omega)
        try have R3 := Lib.hid (below_block hb (row_lt R3.out) R3.out)
        try have RDB := Lib.hid (RDB.out.keep hb)
        have Z := Lib.hid (Z.out.trans (hb.mono Z.out.size))
        have C4 := Lib.hid (below_block hb (row_lt C4.out) C4.out)
        clear ho hb hrd hcd had
        refine hK.out _ _ (C4.out) ?_
        clear hK K
        refine road_t rfl rfl (fun K hK => ?_)
        refine wp_dir rfl ?_
        generalize hB : Array.size (World.heap _) = N3
        generalize hw : World.alloc _ _ = wn
        have hb := Lib.hid (show Below _ _ wn by rw [← hw]; exact below_new _ _)
        have R3 := Lib.hid (show wn.heap[N3]? = some (.cells (W8 dirB) 5 (0, 0)) by rw [← hw]; exact ha_new _ _ _ hB.symm)
        have N3L := Lib.hid (show wd.heap.size ≤ N3 by rw [← hB]; exact Z.out.size)
        try have ND := Lib.hid (show ∀ a, Ad = some a → a.block ≠ N3 by intro a e; have := (AD.out a e).2; omega)
        try have RDD := Lib.hid (RDD.out.keep hb.out)
        have Z := Lib.hid (Z.out.trans (hb.out.mono Z.out.size))
        have C4 := Lib.hid (below_block hb.out (row_lt C4.out) C4.out)
        clear hB hw hb
        refine hK.out _ _ (C4.out) ?_
        clear hK K
        refine road_t rfl rfl (fun K hK => ?_)
        refine wp_cv (.tmp 63) rfl R3.out rfl ?_
        intro wc hr hg _
        have RDB := Lib.hid (show RdB wc (some ⟨N3, 0, none⟩) dirB from RdB.row hr)
        try have RDD := Lib.hid (RDD.out.grown hg (fun q' e a ea => by cases e; exact ND.out a ea))
        have Z := Lib.hid (grown_below_on Z.out hg N3L.out)
        have C4 := Lib.hid (grown_block hg (fun e => by have := Option.some.inj e; have := N3L.out; have := M4L.out; omega) C4.out)
        clear hr hg R3
        refine hK.out _ _ (C4.out) ?_
        clear hK K
        refine road_t rfl rfl (fun K hK => ?_)
        go_simp
        refine (bseal_any w0 g S D b lo s1 _ ((BX.out.keep BWD.out).keep Z.out) (by rw [BD.out.1]; exact HMO.out) (dirE y zs) HY.out.2 (some ⟨N3, 0, none⟩) 3 3 rfl RDB.out (by omega) Ad 273 cd DL.out CDD.out RDD.out
          (fun _ a e => by have := (AD.out a e).1; have := LOW.out; have := BWD.out.size; have := RN.out.fr.1; have := s2.out; have := LM.out; omega) (by omega) (by have := BD.out.2.2.1; have := HU.out; omega) (by rw [BD.out.2.1]; exact HF.out) (by have := BD.out.2.2.2.2; have := HM.out; omega) (by have := BD.out.2.2.2.1; have := HN.out; omega)
          (by have := Z.out.size; have := BWD.out.size; have := RN.out.fr.1; have := s2.out; have := LM.out; omega)).mono ?_
        rintro e w11 ⟨Ax, m, cx, sZ, r, rfl, hse, hrx, hmx, hmc, hax, hbx, hbf⟩
        have RN11 := Lib.hid (((RN.out.keep BWD.out).keep Z.out).boxF hbf)
        have BX11 := Lib.hid hbx
        have SE := Lib.hid hse
        have C4 := Lib.hid (row_boxF C4.out hbf HQ4.out)
        have R6X := Lib.hid (row_boxF R6.out RN11.out.fr HQ6.out)
        have RX := Lib.hid hrx
        have MX := Lib.hid hmx
        have MC := Lib.hid hmc
        have AX := Lib.hid (show ∀ a, Ax = some a → wp.heap.size ≤ a.block ∧ a.block < w11.heap.size from fun a e => ⟨Nat.le_trans BWD.out.size (Nat.le_trans Z.out.size (hax a e).1), (hax a e).2⟩)
        clear hse hrx hmx hmc hax hbx hbf
        refine hK.out _ _ (C4.out) ?_
        clear hK K
        refine road_q (v := ?_) rfl rfl (C4.out) ?_ ?_
        rotate_left
        · intro W hW
          go_simp
          with_reducible rfl
        simp only [Act.put, List.setIfInBounds_toArray, List.set_cons_zero, List.set_cons_succ]
        refine road_q (v := ?_) rfl rfl (C4.out) ?_ ?_
        rotate_left
        · intro W hW
          go_simp
          with_reducible rfl
        simp only [Act.put, List.setIfInBounds_toArray, List.set_cons_zero, List.set_cons_succ]
        refine road_q (v := ?_) rfl rfl (C4.out) ?_ ?_
        rotate_left
        · intro W hW
          go_simp
          with_reducible rfl
        simp only [Act.put, List.setIfInBounds_toArray, List.set_cons_zero, List.set_cons_succ]
        refine road_q (v := ?_) rfl rfl (C4.out) ?_ ?_
        rotate_left
        · intro W hW
          go_simp
          with_reducible rfl
        simp only [Act.put, List.setIfInBounds_toArray, List.set_cons_zero, List.set_cons_succ]
        refine road_q (v := ?_) rfl rfl (C4.out) ?_ ?_
        rotate_left
        · intro W hW
          go_simp
          with_reducible rfl
        simp only [Act.put, List.setIfInBounds_toArray, List.set_cons_zero, List.set_cons_succ]
        refine road_done ?_
        rcases r with _ | x
        · simp only [Option.isSome_none, Bool.false_eq_true, if_false]
          go_wp2_with (refine wpList_store_whole rfl rfl 35 (.tmp 6) (.tmp 72) rfl (M4 + 1) RingZ rfl rfl 35 _ R6X.out info_ringZ rfl ringZ_one ?_; intro w12 hz12 hg12 _)
          refine ret_cell (M4 + 1) 35 RingZ _ rfl rfl rfl rfl hz12 Tryz.underlying35 rfl info_ringZ ⟨sZ, none, .inr (.inl ⟨s1, xs, WR.out, SE.out, rfl⟩), BX11.out.grownT hg12 HD.out HW0.out ?_, ?_, rfl⟩
          · rintro q' ⟨⟩
            exact ⟨by have := LM.out; omega, _, _, _, R6X.out, by decide⟩
          · exact (boxF_pre B2.out RN11.out.fr).grown hg12 (fun k e => by cases e; exact .inr (.inr (.inr (by rw [ME.out]; omega))))
        · simp only [Option.isSome_some, if_true]
          have RX := Lib.hid (show RdB w11 Ax x from RX.out)
          have MX := Lib.hid (show x.length = m from MX.out)
          obtain ⟨Av, cv, hv, _, _, _, _⟩ := RN11.out.own.read
          have VE := Lib.hid hv
          clear hv
          go_upto_region 18 with fail
          refine wp_region_list ?_
          simp only [List.toList_toArray]
          refine wpList_val (v := ?_) (by rfl) ?_ ?_
          rotate_left
          · go_simp
            with_reducible rfl
          simp only [Act.put, List.setIfInBounds_toArray, List.set_cons_zero, List.set_cons_succ]
          refine wpList_val (v := ?_) (by rfl) ?_ ?_
          rotate_left
          · go_simp
            with_reducible rfl
          simp only [Act.put, List.setIfInBounds_toArray, List.set_cons_zero, List.set_cons_succ]
          refine wpList_op (by rfl) (fun K hK => ?_)
          refine wp_store_bytes (.tmp 75) (.tmp 74) rfl (M4 + 2) 1 _ _ _ rfl rfl RN11.out.row (by simp) ?_
          intro w12 hr12 hg12 _
          have R12 := Lib.hid (show w12.heap[M4 + 2]? = some (.cells #[v, .slice Ax m cx] 35 (0, 0)) from hr12)
          have R6Y := Lib.hid (grown_block hg12 (fun e => by have := Option.some.inj e; omega) R6X.out)
          have BX12 := Lib.hid (BX11.out.grownT hg12 HD.out HW0.out (fun q' e => by cases e; exact ⟨by have := LM.out; omega, _, _, _, RN11.out.row, by decide⟩))
          have F12 := Lib.hid ((boxF_pre B2.out RN11.out.fr).grown hg12 (fun k e => by cases e; exact .inr (.inr (.inr (by rw [ME.out]; omega)))))
          have RG11 := Lib.hid (RN11.out.ring (BoxF.refl g S b w11) RX.out MX.out MC.out (fun a e => by have := (AX.out a e).1; have := row_lt RN.out.row; have := (AX.out a e).2; omega))
          have RG12 := Lib.hid (RG11.out.grown hg12 (by omega))
          have ONE := Lib.hid (show (#[v, .slice Ax m cx] : Array Value).all (·.oneCell') = true by rw [VE.out]; simp [Value.oneCell'])
          clear hr12 hg12
          refine hK.out _ _ ?_
          clear hK K
          simp only [Act.put, List.setIfInBounds_toArray, List.set_cons_zero, List.set_cons_succ]
          go_upto_region 19 with fail
          refine wp_region_list ?_
          simp only [List.toList_toArray]
          refine wpList_val (by rfl) (run_load_row 35 (.tmp 8) rfl (M4 + 2) rfl 35 #[v, .slice Ax m cx] (0, 0) _ R12.out Tryz.underlying35 rfl info_ring) ?_
          simp only [Act.put, List.setIfInBounds_toArray, List.set_cons_zero, List.set_cons_succ]
          refine wpList_store_whole rfl rfl 35 (.tmp 6) (.tmp 76) rfl (M4 + 1) #[v, .slice Ax m cx] rfl rfl 35 _ R6Y.out info_ring rfl ONE.out ?_
          intro w13 hz13 hg13 _
          have BX13 := Lib.hid (BX12.out.grownT hg13 HD.out HW0.out (fun q' e => by cases e; exact ⟨by have := LM.out; omega, _, _, _, R6Y.out, by decide⟩))
          have F13 := Lib.hid (F12.out.grown hg13 (fun k e => by cases e; exact .inr (.inr (.inr (by rw [ME.out]; omega)))))
          have RG13 := Lib.hid ((RG12.out.grown hg13 (by omega)).low (show w.heap.size ≤ M4 + 2 + 1 by rw [ME.out]; omega))
          have Z13 := Lib.hid hz13
          clear hz13 hg13
          go_wp2_with fail
          exact ret_cell (M4 + 1) 35 #[v, .slice Ax m cx] _ rfl rfl rfl rfl Z13.out Tryz.underlying35 rfl info_ring ⟨sZ, some (xs, x), .inr (.inr ⟨s1, xs, x, WR.out, SE.out, rfl⟩), BX13.out, F13.out, _, rfl, RG13.out⟩
end Go.Proofs.YtlocplkjokoknaaGreat

/- Make, and Again. No condition but those each theorem states. -/
namespace Go.Proofs.YtlocplkjokoknaaGreat
set_option linter.unusedVariables false
set_option linter.unusedSimpArgs false
open Go.RowKit
attribute [local go_sem ↓] Go.wp_at_zero Go.wp_at_succ

def kysZ : Kys := ⟨0, z32, z32, false⟩
theorem zeroK : (RowK kysZ).toArray = Tryz.zeroCells40 := by kernel_rfl
theorem build_kys (z : Int) (W : World) : (Instr.build 40 #[(0, .int .u64 z), (3, .bool true)]).run Tryz.prog W = .ok (.agg (.int .u64 z :: (B8 z32 ++ (B8 z32 ++ [.bool true]))).toArray) W := by kernel_rfl
theorem build_kysZ (W : World) : (Instr.build 40 #[]).run Tryz.prog W = .ok (.agg (RowK kysZ).toArray) W := by kernel_rfl
theorem run_newK {o : Oper} {a : Act} (x : Operand) (ho : o.op = .build 40 #[(0, x), (3, .const (.bool true))]) (e : UInt64) (hx : a.eval x = .int .u64 (e.toNat : Int)) (W : World) : (execOp a.eval o).run Tryz.prog W = .ok (.value (.agg (RowK ⟨e, z32, z32, true⟩).toArray)) W := by
  unfold execOp
  simp only [ho, List.map_toArray, List.map_cons, List.map_nil, hx, show a.eval (.const (.bool true)) = .bool true from rfl, Sem.run_bind, build_kys, Result.andThen_ok, Sem.run_pure, RowK]
theorem run_zeroK {o : Oper} {a : Act} (ho : o.op = .build 40 #[]) (W : World) : (execOp a.eval o).run Tryz.prog W = .ok (.value (.agg (RowK kysZ).toArray)) W := by
  unfold execOp
  simp only [ho, List.map_toArray, List.map_nil, Sem.run_bind, build_kysZ, Result.andThen_ok, Sem.run_pure]
theorem ok_kysZ : OkK kysZ := ⟨rfl, rfl⟩
/-- Keys that are drawn. -/
def keysOf (s : BSt) (ep : UInt64) : Kys := ⟨ep, tellS s.F s.u 32, tellS s.F (s.u + 32) 32, true⟩
theorem ok_keysOf (s : BSt) (ep : UInt64) : OkK (keysOf s ep) := ⟨tellS_length _ _ _, tellS_length _ _ _⟩
theorem checkL_spec {l : List Mem} (h : checkL l = true) : l.length ≤ 8 ∧ ∀ z ∈ l, 0 ≤ z.n ∧ z.n ≤ 255 := by
  simp only [checkL, Bool.and_eq_true, decide_eq_true_eq] at h
  refine ⟨h.1.1, fun z hz => ?_⟩
  obtain ⟨j, hj⟩ := List.getElem?_of_mem hz
  have h1 := h.2
  simp only [okFrom, List.all_eq_true, List.mem_range, Bool.or_eq_true, decide_eq_true_eq] at h1
  have h2 := h1 j (List.getElem?_eq_some_iff.1 hj).1
  rw [hj] at h2
  simp only [okAt, Bool.and_eq_true, decide_eq_true_eq] at h2
  omega
theorem info_kysC (y : Kys) (h : OkK y) : (Tryz.prog.info? 40).map (·.size) = some (RowK y).toArray.size := by rw [List.size_toArray, RowK_length h]; exact info_kys
theorem sizeK (y : Kys) (h : OkK y) : (RowK y).toArray.size = 66 := by rw [List.size_toArray, RowK_length h]
/-- What Make leaves. -/
def MakeP (w0 : World) (g S D b lo : Nat) (ep : UInt64) (l : List Mem) (s : BSt) (w : World) (e : Ending) (w' : World) : Prop :=
  (checkL l = false ∧ e = .returned (.tuple #[.agg RingZ, .agg (RowK kysZ).toArray, .int .i64 2]) ∧ Below w.heap.size w w') ∨
  (checkL l = true ∧ ∃ s' r, WrapR (keysOf s ep) l { s with u := s.u + 64 } s' r ∧ BoxB w0 g S D b lo s' w' ∧ BoxF g S b w w' ∧
    match r with
    | none => e = .returned (.tuple #[.agg RingZ, .agg (RowK kysZ).toArray, .int .i64 15])
    | some (xs, d) => ∃ v, e = .returned (.tuple #[v, .agg (RowK (keysOf s ep)).toArray, .int .i64 0]) ∧ RgB w.heap.size w' v xs d)
theorem rowK_k {y : Kys} (h : OkK y) (k : List UInt8) (hk : k.length = 32) : ((RowK y).toArray.toList.take 1 ++ ((W8 k).toList ++ (RowK y).toArray.toList.drop (1 + (W8 k).size))).toArray = (RowK { y with k := k }).toArray := by
  rw [W8_size, hk]
  exact congrArg List.toArray (rowK_setK h k default)
theorem rowK_o {y : Kys} (h : OkK y) (o : List UInt8) (ho : o.length = 32) : ((RowK y).toArray.toList.take 33 ++ ((W8 o).toList ++ (RowK y).toArray.toList.drop (33 + (W8 o).size))).toArray = (RowK { y with o := o }).toArray := by
  rw [W8_size, ho]
  exact congrArg List.toArray (rowK_setO h o default)
theorem info_keyW {k : List UInt8} (h : k.length = 32) : (Tryz.prog.info? 38).map (·.size) = some (W8 k).size := by rw [W8_size, h]; kernel_rfl
set_option maxRecDepth 100000 in
set_option maxHeartbeats 4000000 in
theorem make_any (w0 : World) (g S D b lo : Nat) (s : BSt) (w : World) (h : BoxB w0 g S D b lo s w) (hmo : s.mode = 0 ∨ s.mode = 1) (ep : UInt64) (A : Option Addr) (c : Nat) (zs : List Mem) (R : RdM w A zs) (hc : zs.length ≤ c) (hz : zs.length ≤ 1000)
    (hA : zs ≠ [] → ∀ a, A = some a → a.block ≠ g ∧ a.block ≠ S ∧ a.block ≠ b) (hu : s.u + 11000 ≤ 900000) (hF : s.F.length ≤ 100000) (hm : s.m.length ≤ 5000) (hn : s.n ≤ 50000) (hlo : lo ≤ w.heap.size) (hD : D < lo) (hw0 : w0.heap.size ≤ lo) :
    Calls Tryz.prog 7 #[.pointer (some ⟨g, 0, none⟩), .int .u64 (ep.toNat : Int), .slice A zs.length c] w (MakeP w0 g S D b lo ep zs s w) := by
  have ZK := Lib.hid zeroK
  have H := Lib.hid h
  have HMO := Lib.hid hmo
  have HR := Lib.hid R
  have HA := Lib.hid hA
  have HU := Lib.hid hu
  have HF := Lib.hid hF
  have HM := Lib.hid hm
  have HN := Lib.hid hn
  have HLO := Lib.hid hlo
  have HD := Lib.hid hD
  have HW0 := Lib.hid hw0
  have HZ := Lib.hid hz
  have HC := Lib.hid hc
  have LOW := Lib.hid (show g < lo ∧ S < lo ∧ b < lo from ⟨h.lg, h.lS, h.map.low⟩)
  obtain ⟨q, hq⟩ : ∃ q, q = zs.length := ⟨_, rfl⟩
  rw [← hq]
  have Q1 := Lib.hid hq.symm
  clear h hmo R hA hu hF hm hn hlo hD hw0 hq hz hc
  go_enter Tryz.func7, Tryz.ntmps7
  go_upto_region 1 with fail
  rw [← ZK.out]
  generalize hM6 : Array.size (World.heap w) = M6
  generalize hwa : World.alloc w _ = wa
  have sa : wa.heap.size = M6 + 1 := by rw [← hwa, ha_size, hM6]
  generalize hwb : World.alloc wa _ = w2
  have B2 := Lib.hid (show Below w.heap.size w w2 by rw [← hwb, ← hwa]; exact (below_new _ _).alloc (below_new _ _).size _)
  have s2 := Lib.hid (show w2.heap.size = M6 + 2 by rw [← hwb, ha_size, sa])
  have R6 := Lib.hid (show w2.heap[M6]? = some (.cells RingZ 35 (0, 0)) from by
    have h1 : wa.heap[M6]? = some (.cells RingZ 35 (0, 0)) := by rw [← hwa]; exact ha_new _ _ _ hM6.symm
    rw [← hwb]
    exact below_block (below_new _ _) (row_lt h1) h1)
  have R7 := Lib.hid (show w2.heap[M6 + 1]? = some (.cells (RowK kysZ).toArray 40 (0, 0)) by rw [← hwb]; exact ha_new _ _ _ sa.symm)
  have LM := Lib.hid (show lo ≤ M6 by rw [← hM6]; exact HLO.out)
  have ME := Lib.hid hM6
  have H2 := Lib.hid (H.out.keep B2.out)
  clear hwa hwb sa hM6
  go_wp2_with fail
  refine (none_any w0 g S D b lo s w2 H2.out).mono ?_
  rintro e w3 ⟨rfl, hb⟩
  have B3 := Lib.hid hb
  clear hb
  go_wp2_with fail
  have CK := Lib.hid (show Calls Tryz.prog 10 #[.slice A q c] w3 fun e w' => e = .returned (.int .i64 (chk zs)) ∧ Below w3.heap.size w3 w' by rw [← Q1.out]; exact check_any w3 A c zs ((HR.out.keep B2.out).keep B3.out) HC.out HZ.out)
  refine CK.out.mono ?_
  clear CK
  rintro e w4 ⟨rfl, hb⟩
  have B4 := Lib.hid (show Below w2.heap.size w2 w4 from B3.out.trans (hb.mono B3.out.size))
  clear hb
  have H4 := Lib.hid (H2.out.keep B4.out)
  have R64 := Lib.hid (below_block B4.out (row_lt R6.out) R6.out)
  have R74 := Lib.hid (below_block B4.out (row_lt R7.out) R7.out)
  rcases hck : checkL zs with _ | _
  · have CF := Lib.hid hck
    rw [show chk zs = 2 by rw [chk, hck]; rfl]
    clear hck
    go_upto_region 5 with fail
    refine wp_region_list ?_
    simp only [List.toList_toArray]
    refine wpList_val (v := ?_) (by rfl) ?_ ?_
    rotate_left
    · go_simp
      with_reducible rfl
    simp only [Act.put, List.setIfInBounds_toArray, List.set_cons_zero, List.set_cons_succ]
    refine wpList_val (by rfl) (run_zeroK rfl _) ?_
    simp only [Act.put, List.setIfInBounds_toArray, List.set_cons_zero, List.set_cons_succ]
    refine wpList_val (v := ?_) (by rfl) ?_ ?_
    rotate_left
    · go_simp
      with_reducible rfl
    simp only [Act.put, List.setIfInBounds_toArray, List.set_cons_zero, List.set_cons_succ]
    refine wpList_store_whole rfl rfl 35 (.tmp 6) (.tmp 21) rfl M6 RingZ rfl rfl 35 _ R64.out info_ringZ rfl ringZ_one ?_
    intro w5 hz5 hg5 _
    have R75 := Lib.hid (grown_block hg5 (fun e => by have := Option.some.inj e; omega) R74.out)
    refine wpList_store_whole rfl rfl 40 (.tmp 7) (.tmp 22) rfl (M6 + 1) (RowK kysZ).toArray rfl rfl 40 _ R75.out (info_kysC _ ok_kysZ) rfl (rowK_one _) ?_
    intro w6 hz6 hg6 _
    have Z5 := Lib.hid (grown_block hg6 (fun e => by have := Option.some.inj e; omega) hz5)
    have Z6 := Lib.hid hz6
    have BF := Lib.hid (show Below w.heap.size w w6 from grown_below_on (grown_below_on (B2.out.trans (B4.out.mono B2.out.size)) hg5 (by rw [ME.out]; exact Nat.le_refl _)) hg6 (by rw [ME.out]; omega))
    clear hz5 hg5 hz6 hg6
    go_wp2_with fail
    exact ret_cells M6 (M6 + 1) 35 40 RingZ (RowK kysZ).toArray _ rfl rfl rfl rfl rfl Z5.out Tryz.underlying35 rfl info_ringZ Z6.out Tryz.underlying40 rfl (info_kysC _ ok_kysZ) (.inl ⟨CF.out, rfl, BF.out⟩)
  · have CT := Lib.hid hck
    have HA := Lib.hid (HA.out (fun h0 => by have h1 := CT.out; rw [h0] at h1; simp [checkL] at h1))
    rw [show chk zs = 0 by rw [chk, hck]; rfl]
    clear hck
    have SP := Lib.hid (checkL_spec CT.out)
    go_upto_region 6 with fail
    refine wp_region_list ?_
    simp only [List.toList_toArray]
    refine wpList_val (v := ?_) (by rfl) ?_ ?_
    rotate_left
    · go_simp
      with_reducible rfl
    simp only [Act.put, List.setIfInBounds_toArray, List.set_cons_zero, List.set_cons_succ]
    refine wpList_val (by rfl) (run_newK (.tmp 24) rfl ep rfl _) ?_
    simp only [Act.put, List.setIfInBounds_toArray, List.set_cons_zero, List.set_cons_succ]
    go_upto_region 7 with (refine wpList_store_new rfl rfl 40 (.tmp 10) (.tmp 25) rfl (RowK ⟨ep, z32, z32, true⟩).toArray rfl rfl (info_kysC _ ⟨rfl, rfl⟩) (by rw [← ZK.out, sizeK _ ok_kysZ, sizeK _ ⟨rfl, rfl⟩]) (rowK_one _) ?_)
    generalize hM10 : Array.size (World.heap w4) = M10
    generalize hw5 : World.alloc w4 _ = w5
    have B5 := Lib.hid (show Below w4.heap.size w4 w5 by rw [← hw5]; exact below_new _ _)
    have R10 := Lib.hid (show w5.heap[M10]? = some (.cells (RowK ⟨ep, z32, z32, true⟩).toArray 40 (0, 0)) by rw [← hw5]; exact ha_new _ _ _ hM10.symm)
    have H5 := Lib.hid (H4.out.keep B5.out)
    have M10L := Lib.hid (show M6 + 2 ≤ M10 by rw [← hM10, ← s2.out]; exact B4.out.size)
    have F5 := Lib.hid (show BoxF g S b w2 w5 from ((BoxF.refl g S b w2).below B4.out).below B5.out)
    clear hM10 hw5 B5
    obtain ⟨X1, hX1⟩ : ∃ X, X = tellS s.F s.u 32 := ⟨_, rfl⟩
    obtain ⟨X2, hX2⟩ : ∃ X, X = tellS s.F (s.u + 32) 32 := ⟨_, rfl⟩
    have XE := Lib.hid (show keysOf s ep = ⟨ep, X1, X2, true⟩ by rw [keysOf, hX1, hX2])
    have L1 := Lib.hid (show X1.length = 32 by rw [hX1, tellS_length])
    have L2 := Lib.hid (show X2.length = 32 by rw [hX2, tellS_length])
    refine wp_region_list ?_
    simp only [List.toList_toArray]
    refine wpList_val (v := ?_) (by rfl) ?_ ?_
    rotate_left
    · go_simp
      with_reducible rfl
    simp only [Act.put, List.setIfInBounds_toArray, List.set_cons_zero, List.set_cons_succ]
    refine wpList_op (by rfl) (fun K hK => ?_)
    go_simp
    refine (bkey_any w0 g S D b lo s w5 H5.out (by have := HU.out; omega) HF.out).mono ?_
    rw [← hX1]
    rintro e w6 ⟨rfl, hb6, hg6⟩
    have H6 := Lib.hid hb6
    have F6 := Lib.hid (F5.out.trans (boxF_of_grown hg6))
    have R10B := Lib.hid (grown_block hg6 (fun e => by have := Option.some.inj e; have := M10L.out; have := LM.out; have := LOW.out; omega) R10.out)
    clear hb6 hg6
    refine hK.out _ _ ?_
    clear hK K
    refine wpList_val (v := ?_) (by rfl) ?_ ?_
    rotate_left
    · go_simp
      with_reducible rfl
    simp only [Act.put, List.setIfInBounds_toArray, List.set_cons_zero, List.set_cons_succ]
    refine storeM_list rfl 38 (.tmp 28) (.tmp 27) rfl M10 1 (W8 X1) rfl rfl (RowK ⟨ep, z32, z32, true⟩).toArray 40 R10B.out (info_keyW L1.out) (by rw [sizeK _ ⟨rfl, rfl⟩, W8_size, L1.out]; decide) (W8_one _) ?_
    rw [rowK_k ⟨rfl, rfl⟩ X1 L1.out]
    intro w7 hz7 hg7 _
    have LOM := Lib.hid (show lo ≤ M10 by have := M10L.out; have := LM.out; omega)
    have H7 := Lib.hid (H6.out.grownT hg7 HD.out HW0.out (fun q' e => by cases e; exact ⟨LOM.out, _, _, _, R10B.out, by decide⟩))
    have F7 := Lib.hid (F6.out.grown hg7 (fun k e => by cases e; exact .inr (.inr (.inr (by rw [s2.out]; exact M10L.out)))))
    have R10C := Lib.hid hz7
    clear hz7 hg7
    simp only [Act.put, List.setIfInBounds_toArray, List.set_cons_zero, List.set_cons_succ]
    go_upto_region 8 with fail
    refine wp_region_list ?_
    simp only [List.toList_toArray]
    refine wpList_val (v := ?_) (by rfl) ?_ ?_
    rotate_left
    · go_simp
      with_reducible rfl
    simp only [Act.put, List.setIfInBounds_toArray, List.set_cons_zero, List.set_cons_succ]
    refine wpList_op (by rfl) (fun K hK => ?_)
    go_simp
    refine (bkey_any w0 g S D b lo _ w7 H7.out (by have := HU.out; show s.u + 32 + 32 ≤ 900000; omega) HF.out).mono ?_
    rw [← hX2]
    clear hX1 hX2
    rintro e w8 ⟨rfl, hb8, hg8⟩
    have H8 := Lib.hid (show BoxB w0 g S D b lo { s with u := s.u + 64 } w8 from hb8)
    have F8 := Lib.hid (F7.out.trans (boxF_of_grown hg8))
    have R10D := Lib.hid (grown_block hg8 (fun e => by have := Option.some.inj e; have := M10L.out; have := LM.out; have := LOW.out; omega) R10C.out)
    clear hb8 hg8
    refine hK.out _ _ ?_
    clear hK K
    refine wpList_val (v := ?_) (by rfl) ?_ ?_
    rotate_left
    · go_simp
      with_reducible rfl
    simp only [Act.put, List.setIfInBounds_toArray, List.set_cons_zero, List.set_cons_succ]
    refine storeM_list rfl 38 (.tmp 31) (.tmp 30) rfl M10 33 (W8 X2) rfl rfl (RowK ⟨ep, X1, z32, true⟩).toArray 40 R10D.out (info_keyW L2.out) (by rw [sizeK _ ⟨L1.out, rfl⟩, W8_size, L2.out]; decide) (W8_one _) ?_
    rw [rowK_o ⟨L1.out, rfl⟩ X2 L2.out]
    intro w9 hz9 hg9 _
    have H9 := Lib.hid (H8.out.grownT hg9 HD.out HW0.out (fun q' e => by cases e; exact ⟨LOM.out, _, _, _, R10D.out, by decide⟩))
    have F9 := Lib.hid (F8.out.grown hg9 (fun k e => by cases e; exact .inr (.inr (.inr (by rw [s2.out]; exact M10L.out)))))
    have R10E := Lib.hid (show w9.heap[M10]? = some (.cells (RowK (keysOf s ep)).toArray 40 (0, 0)) by rw [XE.out]; exact hz9)
    have OY := Lib.hid (ok_keysOf s ep)
    obtain ⟨y, hy⟩ : ∃ y, y = keysOf s ep := ⟨_, rfl⟩
    rw [← hy] at R10E OY
    have YE := Lib.hid hy
    obtain ⟨sK, hsK⟩ : ∃ sK : BSt, sK = { s with u := s.u + 64 } := ⟨_, rfl⟩
    rw [← hsK] at H9
    have SK := Lib.hid (show sK.mode = s.mode ∧ sK.F = s.F ∧ sK.u = s.u + 64 ∧ sK.n = s.n ∧ sK.m = s.m by rw [hsK]; simp)
    have SKE := Lib.hid hsK
    clear hz9 hg9 hy hsK
    simp only [Act.put, List.setIfInBounds_toArray, List.set_cons_zero, List.set_cons_succ]
    go_upto_region 9 with fail
    refine wp_region_list ?_
    simp only [List.toList_toArray]
    refine wpList_val (v := ?_) (by rfl) ?_ ?_
    rotate_left
    · go_simp
      with_reducible rfl
    simp only [Act.put, List.setIfInBounds_toArray, List.set_cons_zero, List.set_cons_succ]
    refine wpList_val (by rfl) (run_load_row 40 (.tmp 10) rfl M10 rfl 40 (RowK y).toArray (0, 0) _ R10E.out Tryz.underlying40 rfl (info_kysC _ OY.out)) ?_
    simp only [Act.put, List.setIfInBounds_toArray, List.set_cons_zero, List.set_cons_succ]
    refine wpList_val (v := ?_) (by rfl) ?_ ?_
    rotate_left
    · go_simp
      with_reducible rfl
    simp only [Act.put, List.setIfInBounds_toArray, List.set_cons_zero, List.set_cons_succ]
    have WX := Lib.hid (show Calls Tryz.prog 27 #[.pointer (some ⟨g, 0, none⟩), .agg (RowK y).toArray, .slice A q c] w9 (WrapP w0 g S D b lo y zs sK w9) by
      rw [← Q1.out]
      exact wrap_any w0 g S D b lo sK w9 H9.out (by rw [SK.out.1]; exact HMO.out) y OY.out A c zs ((HR.out.keep B2.out).boxF F9.out HA.out) SP.out.1 SP.out.2 HA.out (by rw [SK.out.2.2.1]; have := HU.out; omega) (by rw [SK.out.2.1]; exact HF.out) (by rw [SK.out.2.2.2.2]; exact HM.out) (by rw [SK.out.2.2.2.1]; exact HN.out) (by have := F9.out.1; have := s2.out; have := LM.out; omega) HD.out HW0.out)
    refine wpList_op (by rfl) (fun K hK => ?_)
    go_simp
    refine WX.out.mono ?_
    clear WX
    rintro e w10 ⟨sZ, r, hwr, hbx, hbf, hr⟩
    have H10 := Lib.hid hbx
    have F10 := Lib.hid (F9.out.trans hbf)
    have WR := Lib.hid hwr
    have HQ10 := Lib.hid (show ∀ k, lo ≤ k → k ≠ g ∧ k ≠ S ∧ k ≠ b by intro k hk; have := LOW.out; omega)
    have BF9 := Lib.hid hbf
    have R10F := Lib.hid (row_boxF R10E.out hbf (HQ10.out _ LOM.out))
    have R6T := Lib.hid (row_boxF R6.out F10.out (HQ10.out _ LM.out))
    have R7T := Lib.hid (row_boxF R7.out F10.out (HQ10.out _ (by have := LM.out; omega)))
    have L9 := Lib.hid (show w2.heap.size ≤ w9.heap.size from F9.out.1)
    clear hbx hbf hwr
    rcases r with _ | ⟨xs, d⟩
    · have hr : e = .returned (.tuple #[.agg RingZ, .int .i64 15]) := hr
      subst hr
      refine hK.out _ _ ?_
      clear hK K
      go_upto_region 10 with (refine wpList_store_new rfl rfl 35 (.tmp 11) (.tmp 37) rfl RingZ rfl rfl info_ringZ rfl ringZ_one ?_)
      generalize hM11 : Array.size (World.heap w10) = M11
      generalize hw11 : World.alloc w10 _ = w11
      have B11 := Lib.hid (show Below w10.heap.size w10 w11 by rw [← hw11]; exact below_new _ _)
      have R6U := Lib.hid (below_block B11.out (row_lt R6T.out) R6T.out)
      have R7U := Lib.hid (below_block B11.out (row_lt R7T.out) R7T.out)
      clear hM11 hw11
      go_upto_region 11 with fail
      refine wp_region_list ?_
      simp only [List.toList_toArray]
      refine wpList_val (v := ?_) (by rfl) ?_ ?_
      rotate_left
      · go_simp
        with_reducible rfl
      simp only [Act.put, List.setIfInBounds_toArray, List.set_cons_zero, List.set_cons_succ]
      refine wpList_val (by rfl) (run_zeroK rfl _) ?_
      simp only [Act.put, List.setIfInBounds_toArray, List.set_cons_zero, List.set_cons_succ]
      refine wpList_val (v := ?_) (by rfl) ?_ ?_
      rotate_left
      · go_simp
        with_reducible rfl
      simp only [Act.put, List.setIfInBounds_toArray, List.set_cons_zero, List.set_cons_succ]
      refine wpList_store_whole rfl rfl 35 (.tmp 6) (.tmp 41) rfl M6 RingZ rfl rfl 35 _ R6U.out info_ringZ rfl ringZ_one ?_
      intro w5 hz5 hg5 _
      have R75 := Lib.hid (grown_block hg5 (fun e => by have := Option.some.inj e; omega) R7U.out)
      refine wpList_store_whole rfl rfl 40 (.tmp 7) (.tmp 42) rfl (M6 + 1) (RowK kysZ).toArray rfl rfl 40 _ R75.out (info_kysC _ ok_kysZ) rfl (rowK_one _) ?_
      intro w6 hz6 hg6 _
      have Z5 := Lib.hid (grown_block hg6 (fun e => by have := Option.some.inj e; omega) hz5)
      have Z6 := Lib.hid hz6
      have BX5 := Lib.hid ((H10.out.keep B11.out).grownT hg5 HD.out HW0.out (fun q' e => by cases e; exact ⟨LM.out, _, _, _, R6U.out, by decide⟩))
      have BX6 := Lib.hid (BX5.out.grownT hg6 HD.out HW0.out (fun q' e => by cases e; exact ⟨by have := LM.out; omega, _, _, _, R75.out, by decide⟩))
      have BF := Lib.hid (((boxF_pre B2.out (F10.out.below B11.out)).grown hg5 (fun k e => by cases e; exact .inr (.inr (.inr (by rw [ME.out]; exact Nat.le_refl _))))).grown hg6 (fun k e => by cases e; exact .inr (.inr (.inr (by rw [ME.out]; omega)))))
      clear hz5 hg5 hz6 hg6
      go_wp2_with fail
      refine ret_cells M6 (M6 + 1) 35 40 RingZ (RowK kysZ).toArray _ rfl rfl rfl rfl rfl Z5.out Tryz.underlying35 rfl info_ringZ Z6.out Tryz.underlying40 rfl (info_kysC _ ok_kysZ) (.inr ⟨CT.out, sZ, none, ?_, BX6.out, BF.out, rfl⟩)
      have h1 := WR.out
      rwa [YE.out, SKE.out] at h1
    · obtain ⟨v, rfl, hrg⟩ := hr
      obtain ⟨Av, cv, vs, dv, rfl, hrg1⟩ : ∃ Av cv vs dv, v = .agg #[.slice Av xs.length cv, dv] ∧ RgB w9.heap.size w10 (.agg #[.slice Av xs.length cv, dv]) xs d := by
        obtain ⟨A1, c1, vs, dv, h1, h2⟩ := hrg
        exact ⟨A1, c1, vs, dv, h1, A1, c1, vs, dv, rfl, h2⟩
      obtain ⟨rc, hrc⟩ : ∃ rc : Array Value, rc = #[.slice Av xs.length cv, dv] := ⟨_, rfl⟩
      have ONE := Lib.hid (show rc.all (·.oneCell') = true by
        obtain ⟨_, _, _, dv', h1, _, _, _, _, _, ⟨_, _, h2, _⟩⟩ := hrg1
        injection h1 with h1
        have h3 : dv = dv' := by have := congrArg (fun a : Array Value => a[1]!) h1; simpa using this
        rw [hrc, h3, h2]
        simp [Value.oneCell'])
      have SZ := Lib.hid (show rc.size = 2 by rw [hrc]; rfl)
      have IR := Lib.hid (show (Tryz.prog.info? 35).map (·.size) = some rc.size by rw [SZ.out]; exact info_ring)
      rw [← hrc] at hrg1 ⊢
      have RG := Lib.hid hrg1
      clear hrg hrg1 hrc
      refine hK.out _ _ ?_
      clear hK K
      go_upto_region 10 with (refine wpList_store_new rfl rfl 35 (.tmp 11) (.tmp 37) rfl rc rfl rfl IR.out (by rw [SZ.out]; rfl) ONE.out ?_)
      generalize hM11 : Array.size (World.heap w10) = M11
      generalize hw11 : World.alloc w10 _ = w11
      have B11 := Lib.hid (show Below w10.heap.size w10 w11 by rw [← hw11]; exact below_new _ _)
      have R11 := Lib.hid (show w11.heap[M11]? = some (.cells rc 35 (0, 0)) by rw [← hw11]; exact ha_new _ _ _ hM11.symm)
      have R6U := Lib.hid (below_block B11.out (row_lt R6T.out) R6T.out)
      have R7U := Lib.hid (below_block B11.out (row_lt R7T.out) R7T.out)
      have RXU := Lib.hid (below_block B11.out (row_lt R10F.out) R10F.out)
      have M11L := Lib.hid (show w9.heap.size ≤ M11 by rw [← hM11]; exact BF9.out.1)
      clear hM11 hw11
      go_upto_region 12 with fail
      have C0 := Lib.hid (show w11.drew.heap[M11]? = some (.cells rc 35 (0, 0)) ∧ w11.drew.heap[M10]? = some (.cells (RowK y).toArray 40 (0, 0)) from ⟨R11.out, RXU.out⟩)
      have R6V := Lib.hid (show w11.drew.heap[M6]? = some (.cells RingZ 35 (0, 0)) from R6U.out)
      have R7V := Lib.hid (show w11.drew.heap[M6 + 1]? = some (.cells (RowK kysZ).toArray 40 (0, 0)) from R7U.out)
      have B12 := Lib.hid (show Below w10.heap.size w10 w11.drew from B11.out.drew)
      refine wp_region_road (fun W => W.heap[M11]? = some (.cells rc 35 (0, 0)) ∧ W.heap[M10]? = some (.cells (RowK y).toArray 40 (0, 0))) [(true, 0), (true, 1), (false, 2), (false, 3), (true, 4)] (by kernel_rfl) (by kernel_rfl) (fun _ _ d _ _ h => by cases d <;> exact h) ?_
      simp only [List.filterMap_cons, List.filterMap_nil, List.getElem?_toArray, List.getElem?_cons_zero, List.getElem?_cons_succ, Option.map_some]
      generalize World.drew w11 = wd at C0 R6V R7V B12 ⊢
      refine planG_q (by rfl) (C0.out) (fun W hW => run_load_row 35 (.tmp 11) rfl M11 rfl 35 rc (0, 0) _ hW.1 Tryz.underlying35 rfl IR.out) ?_
      simp only [Act.put, List.setIfInBounds_toArray, List.set_cons_zero, List.set_cons_succ]
      refine planG_q (by rfl) (C0.out) (fun W hW => run_load_row 40 (.tmp 10) rfl M10 rfl 40 (RowK y).toArray (0, 0) _ hW.2 Tryz.underlying40 rfl (info_kysC _ OY.out)) ?_
      simp only [Act.put, List.setIfInBounds_toArray, List.set_cons_zero, List.set_cons_succ]
      have BX0 := Lib.hid (H10.out.keep B12.out)
      have F0 := Lib.hid (boxF_pre B2.out (F10.out.below B12.out))
      have RG0 := Lib.hid (RG.out.keep B12.out)
      have DIS := Lib.hid (show M6 < M10 ∧ M6 + 1 < M10 ∧ M6 + 1 < M11 ∧ M6 + 1 < w9.heap.size by have := M10L.out; have := M11L.out; have := L9.out; have := s2.out; omega)
      refine planG_t (by rfl) (fun K hK => ?_)
      refine wp_store_whole 35 (.tmp 6) (.tmp 44) rfl M6 rc rfl rfl _ _ R6V.out IR.out (by rw [SZ.out]; rfl) ONE.out ?_
      intro w12 hr hg hs
      have C1 := Lib.hid (show w12.heap[M11]? = some (.cells rc 35 (0, 0)) ∧ w12.heap[M10]? = some (.cells (RowK y).toArray 40 (0, 0)) from ⟨grown_block hg (fun e => by have := Option.some.inj e; have := DIS.out; omega) C0.out.1, grown_block hg (fun e => by have := Option.some.inj e; have := DIS.out; omega) C0.out.2⟩)
      have R7W := Lib.hid (grown_block hg (fun e => by have := Option.some.inj e; omega) R7V.out)
      have R6W := Lib.hid hr
      have BX1 := Lib.hid (BX0.out.grownT hg HD.out HW0.out (fun q' e => by cases e; exact ⟨LM.out, _, _, _, R6V.out, by decide⟩))
      have F1 := Lib.hid (F0.out.grown hg (fun k e => by cases e; exact .inr (.inr (.inr (by rw [ME.out]; exact Nat.le_refl _)))))
      have RG1 := Lib.hid (RG0.out.grown hg (by have := DIS.out; omega))
      clear hr hg hs
      refine hK.out _ _ (C1.out) ?_
      clear hK K
      refine planG_t (by rfl) (fun K hK => ?_)
      refine wp_store_whole 40 (.tmp 7) (.tmp 45) rfl (M6 + 1) (RowK y).toArray rfl rfl _ _ R7W.out (info_kysC _ OY.out) (by rw [sizeK _ ok_kysZ, sizeK _ OY.out]) (rowK_one _) ?_
      intro w13 hr hg hs
      have C2 := Lib.hid (show w13.heap[M11]? = some (.cells rc 35 (0, 0)) ∧ w13.heap[M10]? = some (.cells (RowK y).toArray 40 (0, 0)) from ⟨grown_block hg (fun e => by have := Option.some.inj e; have := DIS.out; omega) C1.out.1, grown_block hg (fun e => by have := Option.some.inj e; have := DIS.out; omega) C1.out.2⟩)
      have R6Y := Lib.hid (grown_block hg (fun e => by have := Option.some.inj e; omega) R6W.out)
      have R7Y := Lib.hid hr
      have BX2 := Lib.hid (BX1.out.grownT hg HD.out HW0.out (fun q' e => by cases e; exact ⟨by have := LM.out; omega, _, _, _, R7W.out, by decide⟩))
      have F2 := Lib.hid (F1.out.grown hg (fun k e => by cases e; exact .inr (.inr (.inr (by rw [ME.out]; omega)))))
      have RG2 := Lib.hid ((RG1.out.grown hg (by have := DIS.out; omega)).low (show w.heap.size ≤ w9.heap.size by have := B2.out.size; have := L9.out; omega))
      clear hr hg hs
      refine hK.out _ _ (C2.out) ?_
      clear hK K
      refine planG_q (v := ?_) (by rfl) (C2.out) ?_ ?_
      rotate_left
      · intro W hW
        go_simp
        with_reducible rfl
      simp only [Act.put, List.setIfInBounds_toArray, List.set_cons_zero, List.set_cons_succ]
      refine planG_nil ?_
      go_wp2_with fail
      refine ret_cells M6 (M6 + 1) 35 40 rc (RowK y).toArray _ rfl rfl rfl rfl rfl R6Y.out Tryz.underlying35 rfl IR.out R7Y.out Tryz.underlying40 rfl (info_kysC _ OY.out) (.inr ⟨CT.out, sZ, some (xs, d), ?_, BX2.out, F2.out, _, by rw [← YE.out]; rfl, RG2.out⟩)
      have h1 := WR.out
      rwa [YE.out, SKE.out] at h1
/-- The ring that is answered, by what wrap says. -/
def RingA (base : Nat) (W : World) (rc : Array Value) (ec : Int) : Option (List (List UInt8) × List UInt8) → Prop
  | none => rc = RingZ ∧ ec = 15
  | some (xs, d) => ec = 0 ∧ RgB base W (.agg rc) xs d
/-- What Again leaves. -/
def AgainP (w0 : World) (g S D b lo : Nat) (y : Kys) (l : List Mem) (s : BSt) (w : World) (e : Ending) (w' : World) : Prop :=
  (checkL l = false ∧ e = .returned (.tuple #[.agg RingZ, .int .i64 2]) ∧ Below w.heap.size w w') ∨
  (checkL l = true ∧ ∃ s' r, WrapR y l s s' r ∧ BoxB w0 g S D b lo s' w' ∧ BoxF g S b w w' ∧
    match r with
    | none => e = .returned (.tuple #[.agg RingZ, .int .i64 15])
    | some (xs, d) => ∃ v, e = .returned (.tuple #[v, .int .i64 0]) ∧ RgB w.heap.size w' v xs d)
set_option maxRecDepth 100000 in
set_option maxHeartbeats 4000000 in
theorem again_any (w0 : World) (g S D b lo : Nat) (s : BSt) (w : World) (h : BoxB w0 g S D b lo s w) (hmo : s.mode = 0 ∨ s.mode = 1) (y : Kys) (hy : OkK y) (A : Option Addr) (c : Nat) (zs : List Mem) (R : RdM w A zs) (hc : zs.length ≤ c) (hz : zs.length ≤ 1000)
    (hA : zs ≠ [] → ∀ a, A = some a → a.block ≠ g ∧ a.block ≠ S ∧ a.block ≠ b) (hu : s.u + 10000 ≤ 900000) (hF : s.F.length ≤ 100000) (hm : s.m.length ≤ 5000) (hn : s.n ≤ 50000) (hlo : lo ≤ w.heap.size) (hD : D < lo) (hw0 : w0.heap.size ≤ lo) :
    Calls Tryz.prog 15 #[.pointer (some ⟨g, 0, none⟩), .agg (RowK y).toArray, .slice A zs.length c] w (AgainP w0 g S D b lo y zs s w) := by
  have H := Lib.hid h
  have HMO := Lib.hid hmo
  have OY := Lib.hid hy
  have HR := Lib.hid R
  have HA := Lib.hid hA
  have HU := Lib.hid hu
  have HF := Lib.hid hF
  have HM := Lib.hid hm
  have HN := Lib.hid hn
  have HLO := Lib.hid hlo
  have HD := Lib.hid hD
  have HW0 := Lib.hid hw0
  have HZ := Lib.hid hz
  have HC := Lib.hid hc
  have LOW := Lib.hid (show g < lo ∧ S < lo ∧ b < lo from ⟨h.lg, h.lS, h.map.low⟩)
  obtain ⟨q, hq⟩ : ∃ q, q = zs.length := ⟨_, rfl⟩
  obtain ⟨cs, hcs⟩ : ∃ cs, cs = (RowK y).toArray := ⟨_, rfl⟩
  rw [← hq, ← hcs]
  have Q1 := Lib.hid hq.symm
  have CE := Lib.hid hcs
  have CL := Lib.hid (show (Tryz.prog.info? 40).map (·.size) = some cs.size by rw [hcs]; exact info_kysC _ hy)
  clear h hmo hy R hA hu hF hm hn hlo hD hw0 hq hz hc hcs
  go_enter Tryz.func15, Tryz.ntmps15
  go_upto_region 1 with fail
  generalize hM4 : Array.size (World.heap w) = M4
  generalize hwa : World.alloc w _ = wa
  have sa : wa.heap.size = M4 + 1 := by rw [← hwa, ha_size, hM4]
  generalize hwb : World.alloc wa _ = w2
  have B2 := Lib.hid (show Below w.heap.size w w2 by rw [← hwb, ← hwa]; exact (below_new _ _).alloc (below_new _ _).size _)
  have s2 := Lib.hid (show w2.heap.size = M4 + 2 by rw [← hwb, ha_size, sa])
  have R4 := Lib.hid (show w2.heap[M4]? = some (.cells cs 40 (0, 0)) from by
    have h1 : wa.heap[M4]? = some (.cells cs 40 (0, 0)) := by rw [← hwa]; exact ha_new _ _ _ hM4.symm
    rw [← hwb]
    exact below_block (below_new _ _) (row_lt h1) h1)
  have R6 := Lib.hid (show w2.heap[M4 + 1]? = some (.cells RingZ 35 (0, 0)) by rw [← hwb]; exact ha_new _ _ _ sa.symm)
  have LM := Lib.hid (show lo ≤ M4 by rw [← hM4]; exact HLO.out)
  have ME := Lib.hid hM4
  have H2 := Lib.hid (H.out.keep B2.out)
  clear hwa hwb sa hM4
  go_wp2_with fail
  refine (none_any w0 g S D b lo s w2 H2.out).mono ?_
  rintro e w3 ⟨rfl, hb⟩
  have B3 := Lib.hid hb
  clear hb
  go_wp2_with fail
  have CK := Lib.hid (show Calls Tryz.prog 10 #[.slice A q c] w3 fun e w' => e = .returned (.int .i64 (chk zs)) ∧ Below w3.heap.size w3 w' by rw [← Q1.out]; exact check_any w3 A c zs ((HR.out.keep B2.out).keep B3.out) HC.out HZ.out)
  refine CK.out.mono ?_
  clear CK
  rintro e w4 ⟨rfl, hb⟩
  have B4 := Lib.hid (show Below w2.heap.size w2 w4 from B3.out.trans (hb.mono B3.out.size))
  clear hb
  have H4 := Lib.hid (H2.out.keep B4.out)
  have R44 := Lib.hid (below_block B4.out (row_lt R4.out) R4.out)
  have R64 := Lib.hid (below_block B4.out (row_lt R6.out) R6.out)
  rcases hck : checkL zs with _ | _
  · have CF := Lib.hid hck
    rw [show chk zs = 2 by rw [chk, hck]; rfl]
    clear hck
    go_upto_region 5 with fail
    refine wp_region_list ?_
    simp only [List.toList_toArray]
    refine wpList_val (v := ?_) (by rfl) ?_ ?_
    rotate_left
    · go_simp
      with_reducible rfl
    simp only [Act.put, List.setIfInBounds_toArray, List.set_cons_zero, List.set_cons_succ]
    refine wpList_val (v := ?_) (by rfl) ?_ ?_
    rotate_left
    · go_simp
      with_reducible rfl
    simp only [Act.put, List.setIfInBounds_toArray, List.set_cons_zero, List.set_cons_succ]
    refine wpList_store_whole rfl rfl 35 (.tmp 6) (.tmp 16) rfl (M4 + 1) RingZ rfl rfl 35 _ R64.out info_ringZ rfl ringZ_one ?_
    intro w5 hz5 hg5 _
    have Z5 := Lib.hid hz5
    have BF := Lib.hid (show Below w.heap.size w w5 from grown_below_on (B2.out.trans (B4.out.mono B2.out.size)) hg5 (by rw [ME.out]; omega))
    clear hz5 hg5
    go_wp2_with fail
    exact ret_cell (M4 + 1) 35 RingZ _ rfl rfl rfl rfl Z5.out Tryz.underlying35 rfl info_ringZ (.inl ⟨CF.out, rfl, BF.out⟩)
  · have CT := Lib.hid hck
    have HA := Lib.hid (HA.out (fun h0 => by have h1 := CT.out; rw [h0] at h1; simp [checkL] at h1))
    rw [show chk zs = 0 by rw [chk, hck]; rfl]
    clear hck
    have SP := Lib.hid (checkL_spec CT.out)
    go_upto_region 6 with fail
    refine wp_region_list ?_
    simp only [List.toList_toArray]
    refine wpList_val (v := ?_) (by rfl) ?_ ?_
    rotate_left
    · go_simp
      with_reducible rfl
    simp only [Act.put, List.setIfInBounds_toArray, List.set_cons_zero, List.set_cons_succ]
    refine wpList_val (by rfl) (run_load_row 40 (.tmp 4) rfl M4 rfl 40 cs (0, 0) _ R44.out Tryz.underlying40 rfl CL.out) ?_
    simp only [Act.put, List.setIfInBounds_toArray, List.set_cons_zero, List.set_cons_succ]
    refine wpList_val (v := ?_) (by rfl) ?_ ?_
    rotate_left
    · go_simp
      with_reducible rfl
    simp only [Act.put, List.setIfInBounds_toArray, List.set_cons_zero, List.set_cons_succ]
    have F4 := Lib.hid (show BoxF g S b w2 w4 from (BoxF.refl g S b w2).below B4.out)
    have WX := Lib.hid (show Calls Tryz.prog 27 #[.pointer (some ⟨g, 0, none⟩), .agg cs, .slice A q c] w4 (WrapP w0 g S D b lo y zs s w4) by
      rw [← Q1.out, CE.out]
      exact wrap_any w0 g S D b lo s w4 H4.out HMO.out y OY.out A c zs ((HR.out.keep B2.out).keep B4.out) SP.out.1 SP.out.2 HA.out HU.out HF.out HM.out HN.out (by have := F4.out.1; have := s2.out; have := LM.out; omega) HD.out HW0.out)
    refine wpList_op (by rfl) (fun K hK => ?_)
    go_simp
    refine WX.out.mono ?_
    clear WX
    rintro e w10 ⟨sZ, r, hwr, hbx, hbf, hr⟩
    have H10 := Lib.hid hbx
    have BF4 := Lib.hid hbf
    have F10 := Lib.hid (F4.out.trans hbf)
    have WR := Lib.hid hwr
    have R6T := Lib.hid (row_boxF R6.out F10.out (show M4 + 1 ≠ g ∧ M4 + 1 ≠ S ∧ M4 + 1 ≠ b by have := LOW.out; have := LM.out; omega))
    clear hbx hbf hwr
    obtain ⟨rc, ec, he, ONE, SZ, HE⟩ : ∃ (rc : Array Value) (ec : Int), e = .returned (.tuple #[.agg rc, .int .i64 ec]) ∧ Hid (rc.all (·.oneCell') = true) ∧ Hid (rc.size = 2) ∧ Hid (RingA w4.heap.size w10 rc ec r) := by
      rcases r with _ | ⟨xs, d⟩
      · exact ⟨RingZ, 15, hr, Lib.hid ringZ_one, Lib.hid rfl, Lib.hid ⟨rfl, rfl⟩⟩
      · obtain ⟨v, he, hrg⟩ := hr
        obtain ⟨A1, c1, vs, dv, rfl, h2⟩ := hrg
        refine ⟨_, 0, he, Lib.hid ?_, Lib.hid rfl, Lib.hid ⟨rfl, A1, c1, vs, dv, rfl, h2⟩⟩
        obtain ⟨_, _, _, _, _, _, _, h3, _⟩ := h2
        rw [h3]
        simp [Value.oneCell']
    subst he
    have IR := Lib.hid (show (Tryz.prog.info? 35).map (·.size) = some rc.size by rw [SZ.out]; exact info_ring)
    clear hr
    refine hK.out _ _ ?_
    clear hK K
    refine wpList_val (v := ?_) (by rfl) ?_ ?_
    rotate_left
    · go_simp
      with_reducible rfl
    simp only [Act.put, List.setIfInBounds_toArray, List.set_cons_zero, List.set_cons_succ]
    refine wpList_val (v := ?_) (by rfl) ?_ ?_
    rotate_left
    · go_simp
      with_reducible rfl
    simp only [Act.put, List.setIfInBounds_toArray, List.set_cons_zero, List.set_cons_succ]
    refine wpList_store_whole rfl rfl 35 (.tmp 6) (.tmp 22) rfl (M4 + 1) rc rfl rfl 35 _ R6T.out IR.out (by rw [SZ.out]; rfl) ONE.out ?_
    intro w5 hz5 hg5 _
    have Z5 := Lib.hid hz5
    have BX5 := Lib.hid (H10.out.grownT hg5 HD.out HW0.out (fun q' e => by cases e; exact ⟨by have := LM.out; omega, _, _, _, R6T.out, by decide⟩))
    have F5 := Lib.hid ((boxF_pre B2.out F10.out).grown hg5 (fun k e => by cases e; exact .inr (.inr (.inr (by rw [ME.out]; omega)))))
    have G5 := Lib.hid hg5
    clear hz5 hg5
    go_wp2_with fail
    refine ret_cell (M4 + 1) 35 rc _ rfl rfl rfl rfl Z5.out Tryz.underlying35 rfl IR.out (.inr ⟨CT.out, sZ, r, WR.out, BX5.out, F5.out, ?_⟩)
    have hE := HE.out
    rcases r with _ | ⟨xs, d⟩
    · obtain ⟨rfl, rfl⟩ := hE
      rfl
    · obtain ⟨rfl, hrg⟩ := hE
      exact ⟨_, rfl, (hrg.grown G5.out (by have := F4.out.1; have := s2.out; omega)).low (by have := B2.out.size; have := F4.out.1; omega)⟩
end Go.Proofs.YtlocplkjokoknaaGreat

/- wire.Reader: what it holds, and its small steps. No condition but those each theorem states. -/
namespace Go.Proofs.YtlocplkjokoknaaGreat
set_option linter.unusedVariables false
set_option linter.unusedSimpArgs false
open Go.RowKit
attribute [local go_sem ↓] Go.wp_at_zero Go.wp_at_succ

/-- What is wrong, as a value. -/
def errV (e : Nat) : Value := if e = 0 then .nilIface else .iface 25 (.int .i64 (e : Int))
/-- A reader: what is left, and what is wrong. -/
structure RSt where
  l : List UInt8
  e : Nat
structure Rdr (g D : Nat) (s : RSt) (W : World) : Prop where
  has : ∃ A c, W.heap[g]? = some (.cells #[.slice A s.l.length c, errV s.e] 140 (0, 0)) ∧ s.l.length ≤ c ∧ RdB W A s.l ∧ ∀ a, A = some a → a.block ≠ g ∧ a.block < W.heap.size ∧ a.block = D
  ok : s.e = 0 ∨ ((s.e = 3 ∨ s.e = 10) ∧ s.l = [])
  few : s.l.length ≤ 140737488355328
theorem Rdr.lt {g D : Nat} {s : RSt} {W : World} (h : Rdr g D s W) : g < W.heap.size := by
  obtain ⟨A, c, h1, _⟩ := h.has
  exact row_lt h1
theorem Rdr.keep {g D : Nat} {s : RSt} {W W' : World} (h : Rdr g D s W) (hb : Below W.heap.size W W') : Rdr g D s W' := by
  obtain ⟨A, c, h1, h2, h3, h4⟩ := h.has
  exact ⟨⟨A, c, below_block hb (row_lt h1) h1, h2, h3.keep hb, fun a e => ⟨(h4 a e).1, Nat.lt_of_lt_of_le (h4 a e).2.1 hb.size, (h4 a e).2.2⟩⟩, h.ok, h.few⟩
/-- .. left alone by what grows another block that its bytes don't lie in. -/
theorem Rdr.far {g D : Nat} {s : RSt} {W W' : World} {r : Option Nat} (h : Rdr g D s W) (hg : W.grownBy W' r) (hr : ∀ k, r = some k → k ≠ g ∧ k ≠ D) : Rdr g D s W' := by
  obtain ⟨A, c, h1, h2, h3, h4⟩ := h.has
  refine ⟨⟨A, c, grown_block hg (fun e => (hr g e.symm).1 rfl) h1, h2, h3.grown hg (fun k e a ea => ?_), fun a e => ⟨(h4 a e).1, Nat.lt_of_lt_of_le (h4 a e).2.1 hg.size, (h4 a e).2.2⟩⟩, h.ok, h.few⟩
  have h5 := (h4 a ea).2.2
  have h6 := (hr k e).2
  omega
theorem errV_cases {s : RSt} (h : s.e = 0 ∨ ((s.e = 3 ∨ s.e = 10) ∧ s.l = [])) : (s.e = 0 ∧ errV s.e = .nilIface) ∨ (s.e = 3 ∧ s.l = [] ∧ errV s.e = .iface 25 (.int .i64 3)) ∨ (s.e = 10 ∧ s.l = [] ∧ errV s.e = .iface 25 (.int .i64 10)) := by
  rcases h with h | ⟨h | h, h2⟩
  · exact .inl ⟨h, by simp [errV, h]⟩
  · exact .inr (.inl ⟨h, h2, by simp [errV, h]⟩)
  · exact .inr (.inr ⟨h, h2, by simp [errV, h]⟩)
set_option maxRecDepth 100000 in
set_option maxHeartbeats 1000000 in
theorem fine_any (g D : Nat) (s : RSt) (w : World) (h : Rdr g D s w) :
    Calls Tryz.prog 64 #[.pointer (some ⟨g, 0, none⟩)] w fun e w' => e = .returned (.bool (decide (s.e = 0))) ∧ w' = w := by
  obtain ⟨A, c, h1, _⟩ := h.has
  have c1 := row_cell h1 1 rfl
  clear h1
  have hc := errV_cases h.ok
  rcases hc with ⟨he, hv⟩ | ⟨he, _, hv⟩ | ⟨he, _, hv⟩
  all_goals
    rw [hv] at c1
    rw [he]
    clear hv
    go_enter Tryz.func64, Tryz.ntmps64
    go_wp2_with fail
    go_ret
    exact ⟨rfl, rfl⟩
set_option maxRecDepth 100000 in
set_option maxHeartbeats 1000000 in
theorem fine_nil (w : World) : Calls Tryz.prog 64 #[.pointer none] w fun e w' => e = .returned (.bool true) ∧ w' = w := by
  go_enter Tryz.func64, Tryz.ntmps64
  go_wp2_with fail
  go_ret
  exact ⟨rfl, rfl⟩
set_option maxRecDepth 100000 in
set_option maxHeartbeats 1000000 in
theorem left_any (g D : Nat) (s : RSt) (w : World) (h : Rdr g D s w) :
    Calls Tryz.prog 82 #[.pointer (some ⟨g, 0, none⟩)] w fun e w' => e = .returned (.int .i64 (s.l.length : Int)) ∧ w' = w := by
  obtain ⟨A, c, h1, _⟩ := h.has
  have c0 := row_cell h1 0 rfl
  clear h1
  go_enter Tryz.func82, Tryz.ntmps82
  go_wp2_with fail
  go_ret
  exact ⟨rfl, rfl⟩
theorem left_nil (w : World) : Calls Tryz.prog 82 #[.pointer none] w fun e w' => e = .returned (.int .i64 0) ∧ w' = w := by
  go_enter Tryz.func82, Tryz.ntmps82
  go_wp2_with fail
  go_ret
  exact ⟨rfl, rfl⟩
set_option maxRecDepth 100000 in
set_option maxHeartbeats 1000000 in
theorem fail_any (g D : Nat) (s : RSt) (w : World) (h : Rdr g D s w) (k : Nat) (hk : k = 3 ∨ k = 10) :
    Calls Tryz.prog 83 #[.pointer (some ⟨g, 0, none⟩), .int .i64 (k : Int)] w fun e w' => e = .returned (.tuple #[]) ∧ Rdr g D ⟨[], k⟩ w' ∧ w.grownBy w' (some g) := by
  obtain ⟨A, c, h1, _⟩ := h.has
  obtain ⟨v, hv⟩ : ∃ v, v = errV s.e := ⟨_, rfl⟩
  rw [← hv] at h1
  have HK := Lib.hid hk
  have G := Lib.hid h1
  have a0 := row_cell h1 0 rfl
  have a1 := row_cell h1 1 rfl
  have f0 := row_free h1 0
  have f1 := row_free h1 1
  clear h1 hk
  go_enter Tryz.func83, Tryz.ntmps83
  go_wp2_with fail
  go_end0
  have hg1 : (w.setCell ⟨g, 0, none⟩ (.slice none 0 0)).heap[g]? = some (.cells #[.slice none 0 0, v] 140 (0, 0)) := by rw [heap_setCell_same _ _ _ _ _ _ G.out]; rfl
  have hg2 : ((w.setCell ⟨g, 0, none⟩ (.slice none 0 0)).setCell ⟨g, 1, none⟩ (.iface 25 (.int .i64 (k : Int)))).heap[g]? = some (.cells #[.slice none 0 0, .iface 25 (.int .i64 (k : Int))] 140 (0, 0)) := by rw [heap_setCell_same _ _ _ _ _ _ hg1]; rfl
  have ek : errV k = .iface 25 (.int .i64 (k : Int)) := by unfold errV; rw [if_neg (by have := HK.out; omega)]
  refine ⟨rfl, ⟨⟨none, 0, ?_, Nat.le_refl _, RdB.nil _ _, fun a e => by cases e⟩, .inr ⟨HK.out, rfl⟩, by simp⟩, grown_set (grown_set (World.grownBy.refl _ _) _ _) _ _⟩
  rw [hg2, ek]
  rfl
theorem fail_nil (w : World) (k : Int) : Calls Tryz.prog 83 #[.pointer none, .int .i64 k] w fun e w' => e = .returned (.tuple #[]) ∧ w' = w := by
  go_enter Tryz.func83, Tryz.ntmps83
  go_wp2_with fail
  go_end0
  exact ⟨rfl, rfl⟩
end Go.Proofs.YtlocplkjokoknaaGreat

/- wire.Reader: bytes are taken out. No condition but those each theorem states. -/
namespace Go.Proofs.YtlocplkjokoknaaGreat
set_option linter.unusedVariables false
set_option linter.unusedSimpArgs false
open Go.RowKit
attribute [local go_sem ↓] Go.wp_at_zero Go.wp_at_succ

/-- So many bytes taken out: what is left, they, and whether they are. -/
def takeS (s : RSt) (n : Int) : RSt × List UInt8 × Bool :=
  if n < 1 ∨ s.e ≠ 0 then (s, [], false) else if (s.l.length : Int) < n then (⟨[], 10⟩, [], false) else (⟨s.l.drop n.toNat, 0⟩, s.l.take n.toNat, true)
theorem takeS_len (s : RSt) (n : Int) : (takeS s n).2.1.length ≤ s.l.length := by
  unfold takeS
  split
  · simp
  · split
    · simp
    · simp only [List.length_take]; omega
theorem takeS_le (s : RSt) (n : Int) (k : Nat) (h : n ≤ (k : Int)) : (takeS s n).2.1.length ≤ k := by
  unfold takeS
  split
  · simp
  · split
    · simp
    · simp only [List.length_take]; omega
theorem takeS_few (s : RSt) (n : Int) : (takeS s n).1.l.length ≤ s.l.length := by
  unfold takeS
  split
  · simp
  · split
    · simp
    · simp only [List.length_drop]; omega
/-- What a slice that was taken out is. -/
def GotB (g : Nat) (v : Value) (b : List UInt8) (W : World) : Prop := ∃ A c, v = .slice A b.length c ∧ b.length ≤ c ∧ RdB W A b ∧ ∀ a, A = some a → a.block ≠ g ∧ a.block < W.heap.size
theorem GotB.nil (g : Nat) (W : World) : GotB g (.slice none 0 0) [] W := ⟨none, 0, rfl, Nat.le_refl _, RdB.nil _ _, fun a e => by cases e⟩
set_option maxRecDepth 100000 in
set_option maxHeartbeats 4000000 in
theorem take_any' (g D : Nat) (s : RSt) (n : Int) (w : World) (h : Rdr g D s w) :
    Calls Tryz.prog 63 #[.pointer (some ⟨g, 0, none⟩), .int .i64 n] w fun e w' => (∃ v, e = .returned (.tuple #[v, .bool (takeS s n).2.2]) ∧ GotB g v (takeS s n).2.1 w') ∧ Rdr g D (takeS s n).1 w' ∧ w.grownBy w' (some g) := by
  have R := Lib.hid h
  obtain ⟨i0, hi, hz0, hz1, hz2⟩ := info_parts (show (Tryz.prog.info? 5).map (fun i => (i.zero, i.size, i.bytes)) = some (some (.int .u8 0), 1, 1) by kernel_rfl)
  have I0 := Lib.hid hi
  have I2 := Lib.hid hz1
  clear h hi hz0 hz1 hz2
  by_cases h1 : n < 1
  · have hD : decide (n < (1 : Int)) = true := by simp; omega
    have T := Lib.hid (show takeS s n = (s, [], false) by unfold takeS; rw [if_pos (.inl h1)])
    rw [T.out]
    clear h1
    go_enter Tryz.func63, Tryz.ntmps63
    go_wp2_with fail
    go_ret2
    exact ⟨⟨_, rfl, GotB.nil _ _⟩, R.out, World.grownBy.refl _ _⟩
  · have hD : decide (n < (1 : Int)) = false := by simp; omega
    by_cases he : s.e = 0
    · have E := Lib.hid he
      by_cases hl : (s.l.length : Int) < n
      · have hE : decide ((s.l.length : Int) < n) = true := by simp; omega
        have T := Lib.hid (show takeS s n = (⟨[], 10⟩, [], false) by unfold takeS; rw [if_neg (by omega), if_pos hl])
        rw [T.out]
        clear h1 he hl
        go_enter Tryz.func63, Tryz.ntmps63
        go_wp2_with fail
        refine (fine_any g D s w R.out).mono ?_
        rw [show decide (s.e = 0) = true by simp [E.out]]
        rintro e w1 ⟨rfl, hw⟩
        rw [hw]
        clear hw w1
        go_wp2_with fail
        refine (left_any g D s w R.out).mono ?_
        rintro e w1 ⟨rfl, hw⟩
        rw [hw]
        clear hw w1
        go_wp2_with fail
        refine (fail_any g D s w R.out 10 (by omega)).mono ?_
        rintro e w1 ⟨rfl, hr, hg⟩
        have R1 := Lib.hid hr
        have G1 := Lib.hid hg
        clear hr hg
        go_wp2_with fail
        go_ret2
        exact ⟨⟨_, rfl, GotB.nil _ _⟩, R1.out, G1.out⟩
      · have hE : decide ((s.l.length : Int) < n) = false := by simp; omega
        obtain ⟨m, rfl⟩ : ∃ m : Nat, n = (m : Int) := ⟨n.toNat, by omega⟩
        have T := Lib.hid (show takeS s (m : Int) = (⟨s.l.drop m, 0⟩, s.l.take m, true) by unfold takeS; rw [if_neg (by omega), if_neg hl, Int.toNat_natCast])
        have M := Lib.hid (show m ≤ s.l.length by omega)
        rw [T.out]
        clear h1 he hl
        go_enter Tryz.func63, Tryz.ntmps63
        go_wp2_with fail
        refine (fine_any g D s w R.out).mono ?_
        rw [show decide (s.e = 0) = true by simp [E.out]]
        rintro e w1 ⟨rfl, hw⟩
        rw [hw]
        clear hw w1
        go_wp2_with fail
        refine (left_any g D s w R.out).mono ?_
        rintro e w1 ⟨rfl, hw⟩
        rw [hw]
        clear hw w1
        obtain ⟨A, c, h1, h2, h3, h4⟩ := R.out.has
        obtain ⟨q, hq⟩ : ∃ q, q = s.l.length := ⟨_, rfl⟩
        rw [← hq] at h1 h2 M hE ⊢
        rw [show errV s.e = .nilIface by rw [E.out]; rfl] at h1
        have QE := Lib.hid hq.symm
        have G := Lib.hid h1
        have CC := Lib.hid h2
        have RB := Lib.hid h3
        have NB := Lib.hid h4
        have a0 := row_cell h1 0 rfl
        have f0 := row_free h1 0
        have hE2 : decide (q < m) = false := by simp; have := M.out; omega
        have hcut := cut_max (P := Tryz.prog) 22 5 Tryz.underlying22 I0.out I2.out A q c m (by have := M.out; omega)
        obtain ⟨A2, hcut2, hcutR, hcutB⟩ := cut_from (P := Tryz.prog) 22 5 Tryz.underlying22 I0.out I2.out A q c m M.out
        have HCR := Lib.hid hcutR
        have HCB := Lib.hid hcutB
        clear h1 h2 h3 h4 hq hcutR hcutB
        go_wp2_with fail
        go_ret2
        have hg1 : (w.setCell ⟨g, 0, none⟩ (.slice A2 (q - m) (c - m))).heap[g]? = some (.cells #[.slice A2 (q - m) (c - m), .nilIface] 140 (0, 0)) := by rw [heap_setCell_same _ _ _ _ _ _ G.out]; rfl
        have hgr : w.grownBy (w.setCell ⟨g, 0, none⟩ (.slice A2 (q - m) (c - m))) (some g) := grown_set (World.grownBy.refl _ _) _ _
        have off1 : ∀ k, some g = some k → Off A k := fun k e a ea => by cases e; exact (NB.out a ea).1
        refine ⟨⟨_, rfl, A, m, ?_, ?_, (RB.out.grown hgr off1).take m, fun a ea => ⟨(NB.out a ea).1, Nat.lt_of_lt_of_le (NB.out a ea).2.1 hgr.size⟩⟩, ⟨⟨A2, c - m, ?_, ?_, ?_, fun a ea => ?_⟩, .inl rfl, ?_⟩, hgr⟩
        · show Value.slice A m m = _
          rw [List.length_take, QE.out, Nat.min_eq_left M.out]
        · rw [List.length_take, QE.out]; omega
        · rw [hg1, List.length_drop, QE.out]; rfl
        · rw [List.length_drop, QE.out]; have := CC.out; omega
        · have := HCR.out w s.l QE.out CC.out RB.out
          exact this.grown hgr (fun k e a ea => by
            cases e
            obtain ⟨a0, ea0, hb⟩ := HCB.out a ea
            rw [hb]
            exact (NB.out a0 ea0).1)
        · obtain ⟨a0, ea0, hb⟩ := HCB.out a ea
          rw [hb]
          exact ⟨(NB.out a0 ea0).1, Nat.lt_of_lt_of_le (NB.out a0 ea0).2.1 hgr.size, (NB.out a0 ea0).2.2⟩
        · have := R.out.few
          simp only [List.length_drop]
          omega
    · have T := Lib.hid (show takeS s n = (s, [], false) by unfold takeS; rw [if_pos (.inr he)])
      have E := Lib.hid (show decide (s.e = 0) = false by simp [he])
      rw [T.out]
      clear h1 he
      go_enter Tryz.func63, Tryz.ntmps63
      go_wp2_with fail
      refine (fine_any g D s w R.out).mono ?_
      rw [E.out]
      rintro e w1 ⟨rfl, hw⟩
      rw [hw]
      clear hw w1
      go_wp2_with fail
      go_ret2
      exact ⟨⟨_, rfl, GotB.nil _ _⟩, R.out, World.grownBy.refl _ _⟩
set_option maxRecDepth 100000 in
set_option maxHeartbeats 4000000 in
theorem take_nil (n : Int) (w : World) :
    Calls Tryz.prog 63 #[.pointer none, .int .i64 n] w fun e w' => e = .returned (.tuple #[.slice none 0 0, .bool false]) ∧ w' = w := by
  by_cases h1 : n < 1
  · have hD : decide (n < (1 : Int)) = true := by simp; omega
    go_enter Tryz.func63, Tryz.ntmps63
    go_wp2_with fail
    go_ret2
    exact ⟨rfl, rfl⟩
  · have hD : decide (n < (1 : Int)) = false := by simp; omega
    have hE : decide ((0 : Int) < n) = true := by simp; omega
    go_enter Tryz.func63, Tryz.ntmps63
    go_wp2_with fail
    refine (fine_nil w).mono ?_
    rintro e w ⟨rfl, rfl⟩
    go_wp2_with fail
    refine (left_nil w).mono ?_
    rintro e w ⟨rfl, rfl⟩
    go_wp2_with fail
    refine (fail_nil w 10).mono ?_
    rintro e w ⟨rfl, rfl⟩
    go_wp2_with fail
    go_ret2
    exact ⟨rfl, rfl⟩
end Go.Proofs.YtlocplkjokoknaaGreat

/- wire.Reader: numbers and bytes are read. No condition but those each theorem states. -/
namespace Go.Proofs.YtlocplkjokoknaaGreat
set_option linter.unusedVariables false
set_option linter.unusedSimpArgs false
open Go.RowKit
attribute [local go_sem ↓] Go.wp_at_zero Go.wp_at_succ

/-- The number of bytes, the highest first. -/
def beVal (b : List UInt8) : Nat := b.foldl (fun v c => v * 256 + c.toNat) 0
theorem beVal_snoc (b : List UInt8) (c : UInt8) : beVal (b ++ [c]) = beVal b * 256 + c.toNat := by simp [beVal]
theorem beVal_lt (b : List UInt8) : beVal b < 256 ^ b.length := by
  have key : ∀ (b : List UInt8) (v : Nat), b.foldl (fun v c => v * 256 + c.toNat) v < (v + 1) * 256 ^ b.length := by
    intro b
    induction b with
    | nil => intro v; simp
    | cons c b ih =>
      intro v
      have h1 := ih (v * 256 + c.toNat)
      have h2 := c.toNat_lt
      rw [List.foldl_cons, List.length_cons, Nat.pow_succ]
      refine Nat.lt_of_lt_of_le h1 ?_
      rw [Nat.mul_comm (256 ^ b.length) 256, ← Nat.mul_assoc]
      exact Nat.mul_le_mul_right _ (by omega)
  have := key b 0
  simpa [beVal] using this
theorem beVal_take (b : List UInt8) (j : Nat) (h : j < b.length) : beVal (b.take (j + 1)) = beVal (b.take j) * 256 + (b.getD j 0).toNat := by
  rw [List.take_add_one, List.getElem?_eq_getElem h]
  have e : b.getD j 0 = b[j] := by simp [List.getD_eq_getElem?_getD, h]
  rw [e, ← beVal_snoc]
  rfl
def numS (s : RSt) (n : Int) : RSt × Nat := ((takeS s (min n 8)).1, beVal (takeS s (min n 8)).2.1)
theorem shl_or (v : Nat) (x : UInt8) (hv : v < 72057594037927936) : ∃ z : Nat, Hid (z = v * 256 + x.toNat) ∧ bits .or .u64 ((v : Int) * 256) (x.toNat : Int) = (z : Int) := by
  refine ⟨_, rfl, ?_⟩
  have hx := x.toNat_lt
  have e : ((v : Int) * 256) = ((v * 256 : Nat) : Int) := by omega
  rw [e, u64_or_nat _ _ (by omega) (by omega)]
  congr 1
  rw [show v * 256 = v <<< 8 by rw [Nat.shiftLeft_eq], ← Nat.shiftLeft_add_eq_or_of_lt (by omega)]
set_option maxRecDepth 100000 in
set_option maxHeartbeats 4000000 in
theorem num_any (g D : Nat) (s : RSt) (n : Int) (hn : -9223372036854775808 ≤ n ∧ n ≤ 9223372036854775807) (w : World) (h : Rdr g D s w) :
    Calls Tryz.prog 41 #[.pointer (some ⟨g, 0, none⟩), .int .i64 n] w fun e w' => e = .returned (.int .u64 ((numS s n).2 : Int)) ∧ Rdr g D (numS s n).1 w' ∧ w.grownBy w' (some g) := by
  have R := Lib.hid h
  obtain ⟨m, hm⟩ : ∃ m : Int, m = min n 8 := ⟨_, rfl⟩
  have e1 : (if (8 : Int) < n then (8 : Int) else n) = m := by rw [hm]; split <;> omega
  have M8 := Lib.hid (show m ≤ 8 by omega)
  have HM := Lib.hid hm
  clear h hm
  go_enter Tryz.func41, Tryz.ntmps41
  go_wp2_with fail
  refine (take_any' g D s m w R.out).mono ?_
  have B8 := Lib.hid (takeS_le s m 8 M8.out)
  obtain ⟨t, ht⟩ : ∃ t, t = takeS s m := ⟨_, rfl⟩
  rw [← ht] at B8 ⊢
  have NE := Lib.hid (show numS s n = (t.1, beVal t.2.1) by rw [ht, HM.out]; rfl)
  obtain ⟨s', b, ok⟩ := t
  simp only
  rintro e w1 ⟨⟨v, rfl, A, c, rfl, hbc, hRb, hbo⟩, hr, hg⟩
  obtain ⟨q, hq⟩ : ∃ q, q = b.length := ⟨_, rfl⟩
  have B8 := Lib.hid (show b.length ≤ 8 from B8.out)
  rw [← hq] at B8 ⊢
  have QE := Lib.hid hq.symm
  have qb : (q : Int) ≤ 8 := by have := B8.out; omega
  have R1 := Lib.hid hr
  have G1 := Lib.hid hg
  have RB := Lib.hid hRb
  clear e1 ht hbc hRb hbo hr hg hq
  have SN := Lib.hid (show (numS s n).1 = s' ∧ (numS s n).2 = beVal b from by rw [NE.out]; exact ⟨rfl, rfl⟩)
  go_wp2_with fail
  go_loopw [7, 9, 19] (fun u _ i wr => ∃ j : Nat, j ≤ q ∧ i = .int .i64 (j : Int) ∧ u = .int .u64 ((beVal (b.take j) : Nat) : Int) ∧ wr = w1) (fun _ _ i _ => q - (intOf i).toNat)
  case atStart => exact ⟨0, by omega, rfl, rfl, rfl⟩
  case round =>
    obtain ⟨j, hj, rfl, rfl, hwr⟩ := hrel
    rw [hwr]
    clear hwr wr
    have J := Lib.hid hj
    obtain ⟨y, hy⟩ : ∃ y, y = beVal (b.take j) := ⟨_, rfl⟩
    rw [← hy]
    have Y := Lib.hid hy
    by_cases hlt : j < q
    · have hD : decide ((j : Int) < (q : Int)) = true := by simp; omega
      obtain ⟨bb, o, rfl, x, hx, a1⟩ := RB.out.get j (by rw [QE.out]; exact hlt)
      have Y56 := Lib.hid (show y < 72057594037927936 by
        have h1 := beVal_lt (b.take j)
        have h2 : (b.take j).length ≤ 7 := by rw [List.length_take]; have := B8.out; omega
        have h3 : 256 ^ (b.take j).length ≤ 256 ^ 7 := Nat.pow_le_pow_right (by omega) h2
        omega)
      obtain ⟨z, hz, e2⟩ := shl_or y x Y56.out
      have e3 : IntKind.u64.wrap (x.toNat : Int) = (x.toNat : Int) := by have := x.toNat_lt; rw [IntKind.wrap_u64]; omega
      have yb : (y : Int) < 72057594037927936 := by have := Y56.out; omega
      have l1 : (j : Int) < (q : Int) := by omega
      clear hy
      go_wp2_with fail
      go_roundw
      case rel => exact ⟨j + 1, by omega, by go_num, by rw [hz.out, Y.out, hx.out, beVal_take b j (by rw [QE.out]; exact hlt)], trivial⟩
      case measure => simp [intOf]; omega
    · have hD : decide ((j : Int) < (q : Int)) = false := by simp; omega
      have JE := Lib.hid (show y = beVal b by rw [Y.out, List.take_of_length_le (by rw [QE.out]; omega)])
      go_wp2_with fail
      go_ret
      rw [SN.out.1, SN.out.2, ← JE.out]
      exact ⟨rfl, R1.out, G1.out⟩
set_option maxRecDepth 100000 in
set_option maxHeartbeats 4000000 in
theorem num_nil (n : Int) (hn : -9223372036854775808 ≤ n ∧ n ≤ 9223372036854775807) (w : World) :
    Calls Tryz.prog 41 #[.pointer none, .int .i64 n] w fun e w' => e = .returned (.int .u64 0) ∧ w' = w := by
  obtain ⟨m, hm⟩ : ∃ m : Int, m = min n 8 := ⟨_, rfl⟩
  have e1 : (if (8 : Int) < n then (8 : Int) else n) = m := by rw [hm]; split <;> omega
  clear hm
  go_enter Tryz.func41, Tryz.ntmps41
  go_wp2_with fail
  refine (take_nil m w).mono ?_
  rintro e w ⟨rfl, rfl⟩
  go_wp2_with fail
  go_loopw [7, 9, 19] (fun u _ i wr => u = .int .u64 0 ∧ i = .int .i64 0 ∧ wr = w) (fun _ _ _ _ => 0)
  case atStart => exact ⟨rfl, rfl, rfl⟩
  case round =>
    obtain ⟨rfl, rfl, hwr⟩ := hrel
    rw [hwr]
    go_wp2_with fail
    go_ret
    exact ⟨rfl, rfl⟩
set_option maxRecDepth 100000 in
set_option maxHeartbeats 4000000 in
theorem raw_any (g D : Nat) (s : RSt) (n : Int) (w : World) (h : Rdr g D s w) :
    Calls Tryz.prog 43 #[.pointer (some ⟨g, 0, none⟩), .int .i64 n] w fun e w' => (∃ v, e = .returned v ∧ OwnB w' w.heap.size v (takeS s n).2.1) ∧ Rdr g D (takeS s n).1 w' ∧ w.grownBy w' (some g) := by
  have R := Lib.hid h
  clear h
  go_enter Tryz.func43, Tryz.ntmps43
  go_wp2_with fail
  refine (take_any' g D s n w R.out).mono ?_
  have BL := Lib.hid (show (takeS s n).2.1.length ≤ 140737488355328 from Nat.le_trans (takeS_len s n) R.out.few)
  obtain ⟨t, ht⟩ : ∃ t, t = takeS s n := ⟨_, rfl⟩
  rw [← ht] at BL ⊢
  have TE := Lib.hid ht
  obtain ⟨s', b, ok⟩ := t
  simp only
  rintro e w1 ⟨⟨v, rfl, A, c, rfl, hbc, hRb, hbo⟩, hr, hg⟩
  have BL := Lib.hid (show b.length ≤ 140737488355328 from BL.out)
  obtain ⟨q, hq⟩ : ∃ q, q = b.length := ⟨_, rfl⟩
  rw [← hq] at BL ⊢
  have QE := Lib.hid hq.symm
  have R1 := Lib.hid hr
  have G1 := Lib.hid hg
  have RB := Lib.hid hRb
  clear ht hbc hRb hbo hr hg hq
  go_wp2_with fail
  refine (clone_any w1 A q c b QE.out RB.out BL.out).mono ?_
  rintro e w2 ⟨v, rfl, ho, hb⟩
  have O := Lib.hid (ho.mono G1.out.size)
  have R2 := Lib.hid (R1.out.keep hb)
  have G2 := Lib.hid (World.grownBy.trans G1.out (grown_of_below hb).mono_none)
  clear ho hb
  go_wp2_with fail
  go_ret
  rw [← TE.out]
  exact ⟨⟨_, rfl, O.out⟩, R2.out, G2.out⟩
set_option maxRecDepth 100000 in
set_option maxHeartbeats 4000000 in
theorem raw_nil (n : Int) (w : World) :
    Calls Tryz.prog 43 #[.pointer none, .int .i64 n] w fun e w' => ∃ v, e = .returned v ∧ OwnB w' w.heap.size v [] ∧ Below w.heap.size w w' := by
  go_enter Tryz.func43, Tryz.ntmps43
  go_wp2_with fail
  refine (take_nil n w).mono ?_
  rintro e w ⟨rfl, rfl⟩
  go_wp2_with fail
  refine (clone_any w none 0 0 [] rfl (RdB.nil _ _) (by omega)).mono ?_
  rintro e w2 ⟨v, rfl, ho, hb⟩
  go_wp2_with fail
  go_ret
  exact ⟨_, rfl, ho, hb⟩
end Go.Proofs.YtlocplkjokoknaaGreat

/- wire.New. No condition but those each theorem states. -/
namespace Go.Proofs.YtlocplkjokoknaaGreat
set_option linter.unusedVariables false
set_option linter.unusedSimpArgs false
open Go.RowKit
attribute [local go_sem ↓] Go.wp_at_zero Go.wp_at_succ

set_option maxRecDepth 100000 in
set_option maxHeartbeats 1000000 in
theorem rnew_any (w : World) (A : Option Addr) (n c : Nat) (l : List UInt8) (hn : l.length = n) (hR : RdB w A l) (hb : n ≤ 140737488355328) :
    Calls Tryz.prog 40 #[.slice A n c] w fun e w' => ∃ g D, e = .returned (.pointer (some ⟨g, 0, none⟩)) ∧ w.heap.size ≤ g ∧ w.heap.size ≤ D ∧ Rdr g D ⟨l, 0⟩ w' ∧ Below w.heap.size w w' := by
  have HN := Lib.hid hn
  have HR := Lib.hid hR
  have HB := Lib.hid hb
  clear hn hR hb
  go_enter Tryz.func40, Tryz.ntmps40
  go_wp2_with fail
  refine (clone_any w A n c l HN.out HR.out HB.out).mono ?_
  rintro e w1 ⟨v, rfl, ho, hb⟩
  obtain ⟨A', c', rfl, hr, hl, _, hbk⟩ := ho.read
  obtain ⟨q, hq⟩ : ∃ q, q = l.length := ⟨_, rfl⟩
  rw [← hq] at hl ⊢
  have QE := Lib.hid hq
  have S := Lib.hid hb
  have RI := Lib.hid hr
  have LI := Lib.hid hl
  have BI := Lib.hid hbk
  clear ho hb hr hl hbk hq
  go_wp2_with fail
  go_ret
  obtain ⟨D, hD1, hD2⟩ : ∃ D, w.heap.size ≤ D ∧ ∀ a, A' = some a → a.block = D := by
    rcases A' with _ | a
    · exact ⟨w.heap.size, Nat.le_refl _, fun a e => by cases e⟩
    · exact ⟨a.block, (BI.out a rfl).1, fun b e => by cases e; rfl⟩
  refine ⟨_, D, rfl, S.out.size, hD1, ⟨⟨A', c', ?_, by rw [← QE.out]; exact LI.out, RI.out.keep (below_new _ _), fun a ea => ?_⟩, .inl rfl, by rw [HN.out]; exact HB.out⟩, S.out.alloc S.out.size _⟩
  · rw [← QE.out]
    exact ha_new _ _ _ rfl
  · have := (BI.out a ea).2
    exact ⟨by omega, by rw [ha_size]; omega, hD2 a ea⟩
end Go.Proofs.YtlocplkjokoknaaGreat

/- learn: what a wrapped key's text says. No condition but those each theorem states. -/
namespace Go.Proofs.YtlocplkjokoknaaGreat
set_option linter.unusedVariables false
set_option linter.unusedSimpArgs false
open Go.RowKit
attribute [local go_sem ↓] Go.wp_at_zero Go.wp_at_succ

theorem Rdr.fitL {g D : Nat} {s : RSt} {W : World} (h : Rdr g D s W) : ∃ D', D' < W.heap.size ∧ Rdr g D' s W := by
  obtain ⟨A, c, h1, h2, h3, h4⟩ := h.has
  rcases A with _ | a
  · exact ⟨g, h.lt, ⟨⟨none, c, h1, h2, h3, fun a e => by cases e⟩, h.ok, h.few⟩⟩
  · exact ⟨a.block, (h4 a rfl).2.1, ⟨⟨some a, c, h1, h2, h3, fun a' e => by cases e; exact ⟨(h4 a rfl).1, (h4 a rfl).2.1, rfl⟩⟩, h.ok, h.few⟩⟩
/-- A text laid into zeros. -/
def fitK (l : List UInt8) : List UInt8 := l ++ z32.drop l.length
theorem fitK_length (l : List UInt8) (h : l.length ≤ 32) : (fitK l).length = 32 := by simp [fitK, z32]; omega
theorem fitK_full {l : List UInt8} (h : l.length = 32) : fitK l = l := by rw [fitK, h]; exact List.append_nil _
def learn1 (l : List UInt8) : RSt × Nat := numS ⟨l, 0⟩ 8
def learn2 (l : List UInt8) : RSt × List UInt8 × Bool := takeS (learn1 l).1 32
def learn3 (l : List UInt8) : RSt × Nat := numS (learn2 l).1 1
def learn4 (l : List UInt8) : RSt × List UInt8 × Bool := takeS (learn3 l).1 32
def learnK (l : List UInt8) : Kys := ⟨UInt64.ofNat (learn1 l).2, fitK (learn2 l).2.1, fitK (learn4 l).2.1, decide ((learn3 l).2 = 1)⟩
theorem learn2_len (l : List UInt8) : (learn2 l).2.1.length ≤ 32 := takeS_le _ _ 32 (by omega)
theorem learn4_len (l : List UInt8) : (learn4 l).2.1.length ≤ 32 := takeS_le _ _ 32 (by omega)
theorem ok_learnK (l : List UInt8) : OkK (learnK l) := ⟨fitK_length _ (learn2_len l), fitK_length _ (learn4_len l)⟩
/-- Does the text say just this? -/
def learnB (l : List UInt8) : Bool := decide (textL (learnK l) (learnK l).w = l)
theorem numS_lt (s : RSt) (n : Int) : (numS s n).2 < 18446744073709551616 := by
  have h1 := beVal_lt (takeS s (min n 8)).2.1
  have h2 := takeS_le s (min n 8) 8 (by omega)
  have h3 : 256 ^ (takeS s (min n 8)).2.1.length ≤ 256 ^ 8 := Nat.pow_le_pow_right (by omega) h2
  have h4 : (256 : Nat) ^ 8 = 18446744073709551616 := by decide
  rw [numS]
  show beVal (takeS s (min n 8)).2.1 < _
  omega
theorem build_kysE (z : Int) (W : World) : (Instr.build 40 #[(0, .int .u64 z)]).run Tryz.prog W = .ok (.agg (.int .u64 z :: (B8 z32 ++ (B8 z32 ++ [.bool false]))).toArray) W := by kernel_rfl
theorem run_numK {o : Oper} {a : Act} (x : Operand) (ho : o.op = .build 40 #[(0, x)]) (e : UInt64) (hx : a.eval x = .int .u64 (e.toNat : Int)) (W : World) : (execOp a.eval o).run Tryz.prog W = .ok (.value (.agg (RowK ⟨e, z32, z32, false⟩).toArray)) W := by
  unfold execOp
  simp only [ho, List.map_toArray, List.map_cons, List.map_nil, hx, Sem.run_bind, build_kysE, Result.andThen_ok, Sem.run_pure, RowK]
theorem rowK_b {y : Kys} (h : OkK y) (q : Bool) : (RowK y).toArray.setIfInBounds 65 (.bool q) = (RowK { y with w := q }).toArray := by
  have l2 : ((Value.int .u64 (y.e.toNat : Int) :: B8 y.k) ++ B8 y.o).length = 65 := by simp [B8_length, h.1, h.2]
  have h1 : RowK y = ((.int .u64 (y.e.toNat : Int) :: B8 y.k) ++ B8 y.o) ++ [Value.bool y.w] := by simp [RowK]
  have h2 : RowK { y with w := q } = ((.int .u64 (y.e.toNat : Int) :: B8 y.k) ++ B8 y.o) ++ [Value.bool q] := by simp [RowK]
  rw [h1, h2, List.setIfInBounds_toArray, List.set_append_right _ _ (by rw [l2]; exact Nat.le_refl _), l2]
  rfl
theorem rowK_fitK {y : Kys} (h : OkK y) (hz : y.k = z32) (x : List UInt8) (hx : x.length ≤ 32) : ((RowK y).toArray.toList.take 1 ++ (B8 x ++ (RowK y).toArray.toList.drop (1 + x.length))).toArray = (RowK { y with k := fitK x }).toArray := by
  have h1 : RowK y = .int .u64 (y.e.toNat : Int) :: (B8 z32 ++ (B8 y.o ++ [.bool y.w])) := by rw [RowK, hz]
  show ((RowK y).take 1 ++ (B8 x ++ (RowK y).drop (1 + x.length))).toArray = _
  rw [h1, Nat.add_comm 1, List.drop_succ_cons, List.drop_append_of_le_length (by simp [B8_length, z32]; omega)]
  simp [RowK, fitK, B8, List.map_drop]
theorem rowK_fitO {y : Kys} (h : OkK y) (hz : y.o = z32) (x : List UInt8) (hx : x.length ≤ 32) : ((RowK y).toArray.toList.take 33 ++ (B8 x ++ (RowK y).toArray.toList.drop (33 + x.length))).toArray = (RowK { y with o := fitK x }).toArray := by
  have h1 : RowK y = (.int .u64 (y.e.toNat : Int) :: B8 y.k) ++ (B8 z32 ++ [.bool y.w]) := by rw [RowK, hz]; rfl
  have l1 : (Value.int .u64 (y.e.toNat : Int) :: B8 y.k).length = 33 := by simp [B8_length, h.1]
  show ((RowK y).take 33 ++ (B8 x ++ (RowK y).drop (33 + x.length))).toArray = _
  have h3 : ((Value.int .u64 (y.e.toNat : Int) :: B8 y.k) ++ (B8 z32 ++ [Value.bool y.w])).drop (33 + x.length) = (B8 z32 ++ [Value.bool y.w]).drop x.length := by
    rw [List.drop_append, List.drop_eq_nil_of_le (by rw [l1]; omega), List.nil_append, l1, Nat.add_sub_cancel_left]
  rw [h1, List.take_left' l1, h3, List.drop_append_of_le_length (by simp [B8_length, z32]; omega)]
  simp [RowK, fitK, B8, List.map_drop]
set_option maxRecDepth 100000 in
set_option maxHeartbeats 1000000 in
theorem beq_any (w : World) (A A' : Option Addr) (n n' c c' : Nat) (l l' : List UInt8) (hn : l.length = n) (hn' : l'.length = n') (hR : RdB w A l) (hR' : RdB w A' l') :
    Calls Tryz.prog 44 #[.slice A n c, .slice A' n' c'] w fun e w' => e = .returned (.bool (decide (l = l'))) ∧ w' = w := by
  have H1 := Lib.hid hn
  have H2 := Lib.hid hn'
  have R1 := Lib.hid hR
  have R2 := Lib.hid hR'
  clear hn hn' hR hR'
  go_enter Tryz.func44, Tryz.ntmps44
  go_upto_region 1 with fail
  refine wp_region_list ?_
  simp only [List.toList_toArray]
  refine wpList_val (v := ?_) (by rfl) ?_ ?_
  rotate_left
  · go_simp
    with_reducible rfl
  simp only [Act.put, List.setIfInBounds_toArray, List.set_cons_zero, List.set_cons_succ]
  refine wpList_val (by rfl) (run_str 22 9 (.tmp 5) rfl Tryz.underlying22 Tryz.underlying5 Tryz.underlying9 R1.out n c H1.out rfl) ?_
  simp only [Act.put, List.setIfInBounds_toArray, List.set_cons_zero, List.set_cons_succ]
  refine wpList_val (v := ?_) (by rfl) ?_ ?_
  rotate_left
  · go_simp
    with_reducible rfl
  simp only [Act.put, List.setIfInBounds_toArray, List.set_cons_zero, List.set_cons_succ]
  refine wpList_val (by rfl) (run_str 22 9 (.tmp 7) rfl Tryz.underlying22 Tryz.underlying5 Tryz.underlying9 R2.out n' c' H2.out rfl) ?_
  simp only [Act.put, List.setIfInBounds_toArray, List.set_cons_zero, List.set_cons_succ]
  refine wpList_val (by rfl) (run_eqstr 9 _ (.tmp 6) (.tmp 8) rfl l l' rfl rfl _) ?_
  simp only [Act.put, List.setIfInBounds_toArray, List.set_cons_zero, List.set_cons_succ]
  go_wp2_with fail
  go_ret
  exact ⟨rfl, rfl⟩
set_option maxRecDepth 100000 in
set_option maxHeartbeats 4000000 in
theorem learn_any (w : World) (A : Option Addr) (n c : Nat) (l : List UInt8) (hn : l.length = n) (hR : RdB w A l) (hb : n ≤ 140737488355328) :
    Calls Tryz.prog 37 #[.slice A n c] w fun e w' => e = .returned (.tuple #[.agg (RowK (learnK l)).toArray, .bool (learnB l)]) ∧ Below w.heap.size w w' := by
  have TB := Lib.hid (show ByteT Tryz.prog from ⟨Tryz.underlying22, by kernel_rfl⟩)
  have ZK := Lib.hid zeroK
  have HN := Lib.hid hn
  have HR := Lib.hid hR
  have HB := Lib.hid hb
  obtain ⟨y, hy⟩ : ∃ y, y = learnK l := ⟨_, rfl⟩
  obtain ⟨r, hr⟩ : ∃ r, r = learnB l := ⟨_, rfl⟩
  rw [← hy, ← hr]
  have YE := Lib.hid hy
  have RE := Lib.hid hr
  clear hn hR hb hy hr
  go_enter Tryz.func37, Tryz.ntmps37
  go_upto_region 1 with fail
  rw [← ZK.out]
  generalize hM2 : Array.size (World.heap w) = M2
  generalize hw1 : World.alloc w _ = w1
  have B1 := Lib.hid (show Below w.heap.size w w1 by rw [← hw1]; exact below_new _ _)
  have R2 := Lib.hid (show w1.heap[M2]? = some (.cells (RowK kysZ).toArray 40 (0, 0)) by rw [← hw1]; exact ha_new _ _ _ hM2.symm)
  have ME := Lib.hid hM2
  clear hw1 hM2
  go_wp2_with fail
  refine (rnew_any w1 A n c l HN.out (HR.out.keep B1.out) HB.out).mono ?_
  rintro e w2 ⟨g, D0, rfl, hg, _, hrd, hb2⟩
  obtain ⟨D, hD, hrd⟩ := hrd.fitL
  have RD := Lib.hid hrd
  have BW := Lib.hid (show Below w.heap.size w w2 from B1.out.trans (hb2.mono B1.out.size))
  have R2B := Lib.hid (below_block hb2 (row_lt R2.out) R2.out)
  have DL := Lib.hid hD
  have GL := Lib.hid (show M2 < g ∧ w.heap.size ≤ g by have := row_lt R2.out; have := B1.out.size; omega)
  clear hg hrd hb2 hD
  go_wp2_with fail
  refine (num_any g D ⟨l, 0⟩ 8 (by omega) w2 RD.out).mono ?_
  rintro e w3 ⟨rfl, hrd, hg3⟩
  obtain ⟨e1, he1⟩ : ∃ e1 : UInt64, e1 = UInt64.ofNat (learn1 l).2 := ⟨_, rfl⟩
  have EV : ((numS ⟨l, 0⟩ 8).2 : Int) = ((e1.toNat : Nat) : Int) := by
    rw [he1, UInt64.toNat_ofNat', Nat.mod_eq_of_lt (by have := numS_lt ⟨l, 0⟩ 8; exact this)]
    rfl
  rw [EV]
  have E1 := Lib.hid he1
  have RD3 := Lib.hid (show Rdr g D (learn1 l).1 w3 from hrd)
  have BW3 := Lib.hid (grown_below_on BW.out hg3 GL.out.2)
  have R2C := Lib.hid (grown_block hg3 (fun e => by have := Option.some.inj e; have := GL.out.1; omega) R2B.out)
  have S3 := Lib.hid (show w2.heap.size ≤ w3.heap.size from hg3.size)
  clear hrd hg3 he1 EV
  go_upto_region 3 with (first | (refine wpList_val rfl (run_numK (.tmp 9) rfl e1 rfl _) ?_) | (refine wpList_store_new rfl rfl 40 (.tmp 5) (.tmp 10) rfl (RowK ⟨e1, z32, z32, false⟩).toArray rfl rfl (info_kysC _ ⟨rfl, rfl⟩) (by rw [← ZK.out, sizeK _ ok_kysZ, sizeK _ ⟨rfl, rfl⟩]) (rowK_one _) ?_))
  generalize hM5 : Array.size (World.heap w3) = M5
  generalize hw4 : World.alloc w3 _ = w4
  have B4 := Lib.hid (show Below w3.heap.size w3 w4.drew by rw [← hw4]; exact (below_new _ _).drew)
  have R5 := Lib.hid (show w4.drew.heap[M5]? = some (.cells (RowK ⟨e1, z32, z32, false⟩).toArray 40 (0, 0)) by rw [← hw4]; exact ha_new _ _ _ hM5.symm)
  have M5L := Lib.hid (show g < M5 ∧ D < M5 ∧ M2 < M5 ∧ w.heap.size ≤ M5 by have := RD3.out.lt; have := DL.out; have := S3.out; have := GL.out; omega)
  have RD4 := Lib.hid (RD3.out.keep B4.out)
  have BW4 := Lib.hid (BW3.out.trans (B4.out.mono BW3.out.size))
  have R2D := Lib.hid (below_block B4.out (row_lt R2C.out) R2C.out)
  clear hM5 hw4 B4
  refine wp_region_road (fun _ => True) [(true, 0), (true, 1), (true, 2), (false, 3), (false, 4)] (by kernel_rfl) (by kernel_rfl) (fun _ _ d _ _ h => by cases d <;> exact h) ?_
  simp only [List.filterMap_cons, List.filterMap_nil, List.getElem?_toArray, List.getElem?_cons_zero, List.getElem?_cons_succ, Option.map_some]
  generalize World.drew w4 = wd at R5 RD4 BW4 R2D ⊢
  refine planG_q (v := ?_) (by rfl) (trivial) ?_ ?_
  rotate_left
  · intro W hW
    go_simp
    with_reducible rfl
  simp only [Act.put, List.setIfInBounds_toArray, List.set_cons_zero, List.set_cons_succ]
  refine planG_q (by rfl) (trivial) (fun W hW => run_arr_off 38 (.tmp 11) rfl 32 5 Tryz.underlying38 rfl M5 1 rfl W) ?_
  simp only [Act.put, List.setIfInBounds_toArray, List.set_cons_zero, List.set_cons_succ]
  refine planG_q (v := ?_) (by rfl) (trivial) ?_ ?_
  rotate_left
  · intro W hW
    go_simp
    with_reducible rfl
  simp only [Act.put, List.setIfInBounds_toArray, List.set_cons_zero, List.set_cons_succ]
  refine planG_t (by rfl) (fun K hK => ?_)
  go_simp
  refine (raw_any g D (learn1 l).1 32 wd RD4.out).mono ?_
  rintro e w5 ⟨⟨v5, rfl, ho⟩, hrd, hg5⟩
  obtain ⟨x2, hx2⟩ : ∃ x, x = (learn2 l).2.1 := ⟨_, rfl⟩
  have X2 := Lib.hid hx2
  have X2L := Lib.hid (show x2.length ≤ 32 by rw [hx2]; exact learn2_len l)
  have ho : OwnB w5 wd.heap.size v5 x2 := by rw [hx2]; exact ho
  have RD5 := Lib.hid (show Rdr g D (learn2 l).1 w5 from hrd)
  have BW5 := Lib.hid (grown_below_on BW4.out hg5 GL.out.2)
  have R25 := Lib.hid (grown_block hg5 (fun e => by have := Option.some.inj e; have := GL.out.1; omega) R2D.out)
  have R55 := Lib.hid (grown_block hg5 (fun e => by have := Option.some.inj e; have := M5L.out.1; omega) R5.out)
  obtain ⟨A5, c5, rfl, hr5, _, _, _⟩ := ho.read
  have RX2 := Lib.hid hr5
  clear ho hrd hg5 hx2 hr5
  refine hK.out _ _ (trivial) ?_
  clear hK K
  refine planG_t (by rfl) (fun K hK => ?_)
  refine copyA_wp TB.out (.tmp 12) (.tmp 14) rfl M5 1 32 32 A5 x2.length c5 rfl rfl (RowK ⟨e1, z32, z32, false⟩).toArray 40 R55.out x2 rfl RX2.out x2.length (Nat.min_eq_left X2L.out).symm (by rw [sizeK _ ⟨rfl, rfl⟩]; have := X2L.out; omega) ?_
  rw [List.take_length, rowK_fitK ⟨rfl, rfl⟩ rfl x2 X2L.out]
  intro w6 hr6 hg6 _
  have R56 := Lib.hid hr6
  have RD6 := Lib.hid (RD5.out.far hg6 (fun k e => by cases e; have := M5L.out; omega))
  have BW6 := Lib.hid (grown_below_on BW5.out hg6 M5L.out.2.2.2)
  have R26 := Lib.hid (grown_block hg6 (fun e => by have := Option.some.inj e; have := M5L.out; omega) R25.out)
  clear hr6 hg6
  refine hK.out _ _ (trivial) ?_
  clear hK K
  refine planG_nil ?_
  go_wp2_with fail
  refine (num_any g D (learn2 l).1 1 (by omega) w6 RD6.out).mono ?_
  rintro e w7 ⟨rfl, hrd, hg7⟩
  obtain ⟨n3, hn3⟩ : ∃ n3, n3 = (learn3 l).2 := ⟨_, rfl⟩
  rw [show (numS (learn2 l).1 1).2 = n3 from hn3.symm]
  have N3 := Lib.hid hn3
  have RD7 := Lib.hid (show Rdr g D (learn3 l).1 w7 from hrd)
  have BW7 := Lib.hid (grown_below_on BW6.out hg7 GL.out.2)
  have R27 := Lib.hid (grown_block hg7 (fun e => by have := Option.some.inj e; have := GL.out.1; omega) R26.out)
  have R57 := Lib.hid (grown_block hg7 (fun e => by have := Option.some.inj e; have := M5L.out.1; omega) R56.out)
  obtain ⟨q3, hq3⟩ : ∃ q3 : Bool, q3 = decide (n3 = 1) := ⟨_, rfl⟩
  have dq : ((n3 : Int) == 1) = q3 := by rw [hq3]; by_cases h : n3 = 1
                                         · subst h; rfl
                                         · rw [decide_eq_false h]; simp; omega
  have Q3 := Lib.hid hq3
  clear hrd hg7 hn3 hq3
  have OKK := Lib.hid (show OkK ⟨e1, fitK x2, z32, false⟩ from ⟨fitK_length _ X2L.out, rfl⟩)
  go_wp2_with (refine wpList_op rfl (fun K hK => ?_); refine wp_store_bool (.tmp 19) (.tmp 18) rfl M5 65 q3 rfl rfl R57.out (by rw [sizeK _ OKK.out]; omega) ?_)
  clear dq
  intro w8 hr8 hg8 _
  have R58 := Lib.hid (show w8.heap[M5]? = some (.cells (RowK ⟨e1, fitK x2, z32, q3⟩).toArray 40 (0, 0)) by rw [hr8, ← List.setIfInBounds_toArray, rowK_b OKK.out])
  have RD8 := Lib.hid (RD7.out.far hg8 (fun k e => by cases e; have := M5L.out; omega))
  have BW8 := Lib.hid (grown_below_on BW7.out hg8 M5L.out.2.2.2)
  have R28 := Lib.hid (grown_block hg8 (fun e => by have := Option.some.inj e; have := M5L.out; omega) R27.out)
  clear hr8 hg8
  refine hK.out _ _ ?_
  clear hK K
  go_upto_region 5 with fail
  have R58 := Lib.hid (show w8.drew.heap[M5]? = some (.cells (RowK ⟨e1, fitK x2, z32, q3⟩).toArray 40 (0, 0)) from R58.out)
  have RD8 := Lib.hid (RD8.out.keep (Below.refl _ _).drew)
  have BW8 := Lib.hid BW8.out.drew
  have R28 := Lib.hid (show w8.drew.heap[M2]? = some (.cells (RowK kysZ).toArray 40 (0, 0)) from R28.out)
  refine wp_region_road (fun _ => True) [(true, 0), (true, 1), (true, 2), (false, 3), (false, 4)] (by kernel_rfl) (by kernel_rfl) (fun _ _ d _ _ h => by cases d <;> exact h) ?_
  simp only [List.filterMap_cons, List.filterMap_nil, List.getElem?_toArray, List.getElem?_cons_zero, List.getElem?_cons_succ, Option.map_some]
  generalize World.drew w8 = wd2 at R58 RD8 BW8 R28 ⊢
  refine planG_q (v := ?_) (by rfl) (trivial) ?_ ?_
  rotate_left
  · intro W hW
    go_simp
    with_reducible rfl
  simp only [Act.put, List.setIfInBounds_toArray, List.set_cons_zero, List.set_cons_succ]
  refine planG_q (by rfl) (trivial) (fun W hW => run_arr_off 38 (.tmp 20) rfl 32 5 Tryz.underlying38 rfl M5 33 rfl W) ?_
  simp only [Act.put, List.setIfInBounds_toArray, List.set_cons_zero, List.set_cons_succ]
  refine planG_q (v := ?_) (by rfl) (trivial) ?_ ?_
  rotate_left
  · intro W hW
    go_simp
    with_reducible rfl
  simp only [Act.put, List.setIfInBounds_toArray, List.set_cons_zero, List.set_cons_succ]
  refine planG_t (by rfl) (fun K hK => ?_)
  go_simp
  refine (raw_any g D (learn3 l).1 32 wd2 RD8.out).mono ?_
  rintro e w9 ⟨⟨v9, rfl, ho⟩, hrd, hg9⟩
  obtain ⟨x4, hx4⟩ : ∃ x, x = (learn4 l).2.1 := ⟨_, rfl⟩
  have X4 := Lib.hid hx4
  have X4L := Lib.hid (show x4.length ≤ 32 by rw [hx4]; exact learn4_len l)
  have ho : OwnB w9 wd2.heap.size v9 x4 := by rw [hx4]; exact ho
  have BW9 := Lib.hid (grown_below_on BW8.out hg9 GL.out.2)
  have R29 := Lib.hid (grown_block hg9 (fun e => by have := Option.some.inj e; have := GL.out.1; omega) R28.out)
  have R59 := Lib.hid (grown_block hg9 (fun e => by have := Option.some.inj e; have := M5L.out.1; omega) R58.out)
  obtain ⟨A9, c9, rfl, hr9, _, _, _⟩ := ho.read
  have RX4 := Lib.hid hr9
  clear ho hrd hg9 hx4 hr9
  refine hK.out _ _ (trivial) ?_
  clear hK K
  have OK4 := Lib.hid (show OkK ⟨e1, fitK x2, z32, q3⟩ from ⟨fitK_length _ X2L.out, rfl⟩)
  refine planG_t (by rfl) (fun K hK => ?_)
  refine copyA_wp TB.out (.tmp 21) (.tmp 23) rfl M5 33 32 32 A9 x4.length c9 rfl rfl (RowK ⟨e1, fitK x2, z32, q3⟩).toArray 40 R59.out x4 rfl RX4.out x4.length (Nat.min_eq_left X4L.out).symm (by rw [sizeK _ OK4.out]; have := X4L.out; omega) ?_
  rw [List.take_length, rowK_fitO OK4.out rfl x4 X4L.out]
  intro w10 hr10 hg10 _
  have YF := Lib.hid (show y = ⟨e1, fitK x2, fitK x4, q3⟩ by rw [YE.out, learnK, ← X2.out, ← X4.out, E1.out, Q3.out, N3.out])
  have R5A := Lib.hid (show w10.heap[M5]? = some (.cells (RowK y).toArray 40 (0, 0)) by rw [YF.out]; exact hr10)
  have BWA := Lib.hid (grown_below_on BW9.out hg10 M5L.out.2.2.2)
  have R2A := Lib.hid (grown_block hg10 (fun e => by have := Option.some.inj e; have := M5L.out; omega) R29.out)
  have OY := Lib.hid (show OkK y by rw [YE.out]; exact ok_learnK l)
  clear hr10 hg10
  refine hK.out _ _ (trivial) ?_
  clear hK K
  refine planG_nil ?_
  go_upto_region 6 with fail
  have C0 := Lib.hid (show w10.drew.heap[M5]? = some (.cells (RowK y).toArray 40 (0, 0)) from R5A.out)
  have R2A := Lib.hid (show w10.drew.heap[M2]? = some (.cells (RowK kysZ).toArray 40 (0, 0)) from R2A.out)
  have BWA := Lib.hid BWA.out.drew
  refine wp_region_road (fun W => W.heap[M5]? = some (.cells (RowK y).toArray 40 (0, 0))) [(true, 0), (true, 1), (true, 2), (true, 3), (true, 5), (false, 4), (false, 6), (false, 7), (true, 8)] (by kernel_rfl) (by kernel_rfl) (fun _ _ d _ _ h => by cases d <;> exact h) ?_
  simp only [List.filterMap_cons, List.filterMap_nil, List.getElem?_toArray, List.getElem?_cons_zero, List.getElem?_cons_succ, Option.map_some]
  generalize World.drew w10 = wd3 at C0 R2A BWA ⊢
  refine planG_q (by rfl) (C0.out) (fun W hW => run_load_row 40 (.tmp 5) rfl M5 rfl 40 (RowK y).toArray (0, 0) _ hW Tryz.underlying40 rfl (info_kysC _ OY.out)) ?_
  simp only [Act.put, List.setIfInBounds_toArray, List.set_cons_zero, List.set_cons_succ]
  refine planG_q (by rfl) (C0.out) (fun W hW => run_load_row 40 (.tmp 5) rfl M5 rfl 40 (RowK y).toArray (0, 0) _ hW Tryz.underlying40 rfl (info_kysC _ OY.out)) ?_
  simp only [Act.put, List.setIfInBounds_toArray, List.set_cons_zero, List.set_cons_succ]
  refine planG_q (v := ?_) (by rfl) (C0.out) ?_ ?_
  rotate_left
  · intro W hW
    go_simp
    with_reducible rfl
  simp only [Act.put, List.setIfInBounds_toArray, List.set_cons_zero, List.set_cons_succ]
  refine planG_q (by rfl) (C0.out) (fun W hW => run_cell 4 (.tmp 27) rfl _ Tryz.underlying4 rfl rfl (row_cell hW 65 (rowK_w OY.out))) ?_
  simp only [Act.put, List.setIfInBounds_toArray, List.set_cons_zero, List.set_cons_succ]
  refine planG_q (v := ?_) (by rfl) (C0.out) ?_ ?_
  rotate_left
  · intro W hW
    go_simp
    with_reducible rfl
  simp only [Act.put, List.setIfInBounds_toArray, List.set_cons_zero, List.set_cons_succ]
  refine planG_t (by rfl) (fun K hK => ?_)
  go_simp
  refine (text_any wd3 y OY.out y.w).mono ?_
  rintro e w11 ⟨v11, rfl, ho, hb⟩
  obtain ⟨A11, c11, rfl, hr11, _, _, _⟩ := ho.read
  have RT := Lib.hid hr11
  have C1 := Lib.hid (below_block hb (row_lt C0.out) C0.out)
  have R2E := Lib.hid (below_block hb (row_lt R2A.out) R2A.out)
  have BWE := Lib.hid (BWA.out.trans (hb.mono BWA.out.size))
  clear ho hr11 hb
  refine hK.out _ _ (C1.out) ?_
  clear hK K
  refine planG_t (by rfl) (fun K hK => ?_)
  go_simp
  refine (beq_any w11 A11 A _ n c11 c (textL y y.w) l rfl HN.out RT.out (HR.out.keep BWE.out)).mono ?_
  rw [show decide (textL y y.w = l) = r by rw [RE.out, learnB, YE.out]]
  rintro e wx ⟨rfl, hw⟩
  rw [hw]
  clear hw wx
  refine hK.out _ _ (C1.out) ?_
  clear hK K
  refine planG_t (by rfl) (fun K hK => ?_)
  refine wp_store_whole 40 (.tmp 2) (.tmp 25) rfl M2 (RowK y).toArray rfl rfl _ _ R2E.out (info_kysC _ OY.out) (by rw [sizeK _ ok_kysZ, sizeK _ OY.out]) (rowK_one _) ?_
  intro w12 hr12 hg12 _
  have Z12 := Lib.hid hr12
  have C2 := Lib.hid (grown_block hg12 (fun e => by have := Option.some.inj e; have := M5L.out; omega) C1.out)
  have BF := Lib.hid (grown_below_on BWE.out hg12 (by rw [ME.out]; exact Nat.le_refl _))
  clear hr12 hg12
  refine hK.out _ _ (C2.out) ?_
  clear hK K
  refine planG_q (v := ?_) (by rfl) (C2.out) ?_ ?_
  rotate_left
  · intro W hW
    go_simp
    with_reducible rfl
  simp only [Act.put, List.setIfInBounds_toArray, List.set_cons_zero, List.set_cons_succ]
  refine planG_nil ?_
  go_wp2_with fail
  exact ret_cell M2 40 (RowK y).toArray _ rfl rfl rfl rfl Z12.out Tryz.underlying40 rfl (info_kysC _ OY.out) ⟨rfl, BF.out⟩
end Go.Proofs.YtlocplkjokoknaaGreat
