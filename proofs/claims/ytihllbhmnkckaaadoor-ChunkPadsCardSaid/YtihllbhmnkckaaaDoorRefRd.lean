/- The reference's reader: a value of two cells. No condition but those each theorem states. -/
import Derived.Test.YtihllbhmnkckaaaDoorRdrNew
import Derived.Test.YtihllbhmnkckaaaDoorStrRow
import Derived.Laws.ResultCell
namespace Go.Proofs.YtihllbhmnkckaaaDoor
set_option linter.unusedVariables false
set_option linter.unusedSimpArgs false
open Go.RowKit
attribute [local go_sem ↓] Go.wp_at_zero Go.wp_at_succ

/-- A reader as the reference holds it. -/
def refV (s : RSt) : Value := .agg #[.string (strB s.l), .int .i64 (s.e : Int)]
/-- .. in a block. -/
def RefB (W : World) (g : Nat) (s : RSt) : Prop := W.heap[g]? = some (.cells #[.string (strB s.l), .int .i64 (s.e : Int)] 44 (0, 0))
theorem info_ref : (Tryd.prog.info? 44).map (·.size) = some 2 := by kernel_rfl
theorem strB_nil : (⟨#[]⟩ : ByteArray) = strB [] := rfl
theorem rd_extract (l : List UInt8) (i j : Nat) : (strB l).extract i j = strB ((l.drop i).take (j - i)) := by
  apply ByteArray.ext
  rw [ByteArray.data_extract]
  simp [strB, List.extract_eq_take_drop]
theorem rd_from {P : Program} {o : Oper} {a : Act} (t : TypeId) (x y : Operand) (ho : o.op = .slice t x (some y) none none) (hu : P.underlying t = some .string) (l : List UInt8) (i : Nat) (hi : i ≤ l.length)
    (hx : a.eval x = .string (strB l)) (hy : a.eval y = .int .i64 (i : Int)) (W : World) : (execOp a.eval o).run P W = .ok (.value (.string (strB (l.drop i)))) W := by
  have h := run_slice_string_l (P := P) W t (strB l) hu .i64 (i : Int) (by omega) (by rw [strB_size]; omega)
  have h2 := run_sliceAt_string (P := P) (w := W) t (.string (strB l)) (some (.int .i64 (i : Int))) none none hu
  unfold execOp
  simp only [ho, hx, hy, Option.map_some, Option.map_none, Sem.run_bind, Sem.run_pure, h2, h, Result.andThen_ok, Int.toNat_natCast, rd_extract, strB_size]
  rw [List.take_of_length_le (by rw [List.length_drop]; omega)]
theorem rd_to {P : Program} {o : Oper} {a : Act} (t : TypeId) (x z : Operand) (ho : o.op = .slice t x none (some z) none) (hu : P.underlying t = some .string) (l : List UInt8) (j : Nat) (hj : j ≤ l.length)
    (hx : a.eval x = .string (strB l)) (hz : a.eval z = .int .i64 (j : Int)) (W : World) : (execOp a.eval o).run P W = .ok (.value (.string (strB (l.take j)))) W := by
  have h := run_slice_string_h (P := P) W t (strB l) hu .i64 (j : Int) (by omega) (by rw [strB_size]; omega)
  have h2 := run_sliceAt_string (P := P) (w := W) t (.string (strB l)) none (some (.int .i64 (j : Int))) none hu
  unfold execOp
  simp only [ho, hx, hz, Option.map_some, Option.map_none, Sem.run_bind, Sem.run_pure, h2, h, Result.andThen_ok, Int.toNat_natCast, rd_extract, List.drop_zero, Nat.sub_zero]
/-- The way out of a function that answers a reader and something more. -/
theorem ret_ref {fn : Func} {R : Ending → World → Prop} {a : Act} {w : World} (g : Nat) (s : RSt) (v : Value) {p u : Tmp} (h : fn.results = #[.cell p 44, .tmp u])
    (hp : a.tmps.getD p undef = .pointer (some ⟨g, 0, none⟩)) (hu : a.tmps.getD u undef = v) (hd : a.defers = []) (hg : RefB w g s) (hR : R (.returned (.tuple #[refV s, v])) w) : bodyPost Tryd.prog fn R .ret a w := by
  refine bodyPost_ret ?_ hd hR
  rw [results_cell_tmp h, hp, hu]
  show (((asAddr (.pointer (some ⟨g, 0, none⟩))).run _ _).andThen _) = _
  simp only [asAddr, Sem.run_pure, Result.andThen_ok]
  rw [run_loadVar_row w g _ 44 #[.string (strB s.l), .int .i64 (s.e : Int)] (0, 0) _ hg Tryd.underlying44 rfl info_ref]
  rfl
theorem ref_one (l : List UInt8) (k : Int) : (#[.string (strB l), .int .i64 k] : Array Value).all (·.oneCell') = true := by simp [Value.oneCell']
theorem below2 (w : World) (A B : Obj) : Below w.heap.size w ((w.alloc A).alloc B) := (below_new _ _).trans ((below_new _ _).mono (by simp))
set_option maxRecDepth 100000 in
set_option maxHeartbeats 2000000 in
theorem rwrong_any (w : World) (s : RSt) (k : Nat) :
    Calls Tryd.prog 37 #[refV s, .int .i64 (k : Int)] w fun e w' => e = .returned (refV ⟨[], k⟩) ∧ Below w.heap.size w w' := by
  unfold refV
  go_enter Tryd.func37, Tryd.ntmps37
  go_wp2_with fail
  refine bodyPost_ret (results_cell_row rfl _ _ (w.heap.size + 1) 44 #[.string (strB []), .int .i64 (k : Int)] (0, 0) _ rfl (ha_new _ _ _ (by simp)) Tryd.underlying44 rfl info_ref) rfl ⟨rfl, ?_⟩
  exact (below_new _ _).trans ((below_new _ _).mono (by simp))
set_option maxRecDepth 100000 in
set_option maxHeartbeats 4000000 in
theorem rnum_any (w : World) (s : RSt) (hl : s.l.length ≤ 100000) (n : Int) (hn : -9223372036854775808 ≤ n ∧ n ≤ 9223372036854775807) :
    Calls Tryd.prog 23 #[refV s, .int .i64 n] w fun e w' => e = .returned (.tuple #[refV (numS s n).1, .int .u64 ((numS s n).2 : Int)]) ∧ Below w.heap.size w w' := by
  obtain ⟨l, e⟩ := s
  obtain ⟨q, hq⟩ : ∃ q, q = l.length := ⟨_, rfl⟩
  have hl : l.length ≤ 100000 := hl
  rw [← hq] at hl
  have sz : (strB l).size = q := by rw [strB_size, hq]
  have QE := Lib.hid hq.symm
  have qb : (q : Int) ≤ 100000 := by omega
  obtain ⟨m, hm⟩ : ∃ m : Int, m = min n 8 := ⟨_, rfl⟩
  have M8 := Lib.hid (show m ≤ 8 by omega)
  have m8 : m ≤ 8 := M8.out
  have m9 : -9223372036854775808 ≤ m := by omega
  obtain ⟨T, hT⟩ : ∃ T, T = takeS ⟨l, e⟩ m := ⟨_, rfl⟩
  have NE := Lib.hid (show numS ⟨l, e⟩ n = (T.1, beVal T.2.1) by rw [hT, hm]; rfl)
  rw [NE.out]
  have TE := Lib.hid hT
  have HM := Lib.hid hm
  unfold refV
  clear hq hm hT hl
  go_enter Tryd.func23, Tryd.ntmps23
  go_upto_if 9 with fail
  generalize hw : World.alloc (World.alloc w _) _ = w2
  go_cut [1] (fun u wx => u = .int .i64 m ∧ wx = w2)
  case first =>
    by_cases h8 : (8 : Int) < n
    · have hD : decide ((8 : Int) < n) = true := by simp; omega
      go_wp2_with fail
      go_meet
      exact ⟨by rw [HM.out]; congr 1; omega, rfl⟩
    · have hD : decide ((8 : Int) < n) = false := by simp; omega
      go_wp2_with fail
      go_meet
      exact ⟨by rw [HM.out]; congr 1; omega, rfl⟩
  case rest =>
  obtain ⟨rfl, hwx⟩ := hcut
  rw [hwx, ← hw]
  clear hwx wc hn HM
  have HW := Lib.hid hw
  clear hw
  by_cases he : e = 0
  · subst he
    by_cases h1 : m < 1
    · have hD : decide (m < (1 : Int)) = true := by simp; omega
      have F := Lib.hid (show T = (⟨l, 0⟩, [], false) by rw [TE.out, takeS, if_pos (.inl h1)])
      go_wp2_with fail
      refine ret_ref (w.heap.size + 1) ⟨l, 0⟩ _ rfl rfl rfl rfl (ha_new _ _ _ (by simp)) ⟨by rw [F.out]; rfl, below2 _ _ _⟩
    · have hD : decide (m < (1 : Int)) = false := by simp; omega
      obtain ⟨M, rfl⟩ : ∃ M : Nat, m = (M : Int) := ⟨m.toNat, by omega⟩
      by_cases h2 : q < M
      · have hD2 : decide (q < M) = true := by simp; omega
        have F := Lib.hid (show T = (⟨[], 10⟩, [], false) by rw [TE.out, takeS, if_neg (by simp; omega), if_pos (by simp only; have := QE.out; omega)])
        go_wp2_with fail
        refine (rwrong_any _ ⟨l, 0⟩ 10).mono ?_
        rintro e w3 ⟨rfl, hb⟩
        have row := below_block hb (by simp) (ha_new _ _ (w.heap.size + 1) (by simp))
        have S3 := Lib.hid ((below2 w _ _).trans (hb.mono (by simp; omega)))
        have ROW := Lib.hid row
        clear hb row
        unfold refV
        go_wp2_with (refine wpList_store_whole rfl rfl 44 (.tmp 4) (.tmp 24) rfl (w.heap.size + 1) #[.string (strB []), .int .i64 10] rfl rfl 44 #[.string ⟨#[]⟩, .int .i64 0] ROW.out info_ref rfl (ref_one _ _) ?_)
        intro w4 hr hg _
        go_wp2_with fail
        refine ret_ref (w.heap.size + 1) ⟨[], 10⟩ _ rfl rfl rfl rfl hr ⟨by rw [F.out]; rfl, S3.out.trans (grown_below hg S3.out.size (by rintro k ⟨⟩; omega))⟩
      · have hD2 : decide (q < M) = false := by simp; omega
        have MQ := Lib.hid (show 1 ≤ M ∧ M ≤ q ∧ M ≤ 8 by omega)
        have F := Lib.hid (show T = (⟨l.drop M, 0⟩, l.take M, true) by rw [TE.out, takeS, if_neg (by simp; omega), if_neg (by simp only; have := QE.out; omega), Int.toNat_natCast])
        have mb : (M : Int) ≤ 8 := by omega
        have c0 := Lib.hid (show w2.cell? ⟨w.heap.size, 0, none⟩ = some (.string (strB l)) by rw [← HW.out]; exact row_cell (ha_old _ _ _ (by simp) (ha_new _ _ _ rfl)) 0 rfl)
        go_wp2_with fail
        go_loopw [6, 7] (fun v i wr => ∃ j : Nat, j ≤ M ∧ i = .int .i64 (j : Int) ∧ v = .int .u64 ((beVal (l.take j) : Nat) : Int) ∧ wr = w2) (fun _ i _ => M - (intOf i).toNat)
        case atStart => exact ⟨0, by omega, rfl, rfl, HW.out⟩
        case round =>
          obtain ⟨j, hj, rfl, rfl, hwr⟩ := hrel
          rw [hwr]
          clear hwr wr
          have J := Lib.hid hj
          obtain ⟨y, hy⟩ : ∃ y, y = beVal (l.take j) := ⟨_, rfl⟩
          rw [← hy]
          have Y := Lib.hid hy
          by_cases hlt : j < M
          · have hD : decide (j < M) = true := by simp; omega
            have hE : decide ((j : Int) < (M : Int)) = true := by simp; omega
            have Y56 := Lib.hid (show y < 72057594037927936 by
              have h1 := beVal_lt (l.take j)
              have h2 : (l.take j).length ≤ 7 := by rw [List.length_take]; have := MQ.out; omega
              have h3 : 256 ^ (l.take j).length ≤ 256 ^ 7 := Nat.pow_le_pow_right (by omega) h2
              omega)
            obtain ⟨x, hx⟩ : ∃ x, x = l.getD j 0 := ⟨_, rfl⟩
            have X := Lib.hid hx
            have yb : (y : Int) < 72057594037927936 := by have := Y56.out; omega
            have xb := x.toNat_lt
            have xb : (x.toNat : Int) < 256 := by omega
            have c1 := c0.out
            clear hy hx
            go_wp2_with (refine wpList_val rfl (run_idx_str 9 (.tmp 33) (.tmp 34) rfl Tryd.underlying9 l j x X.out (by have := QE.out; have := MQ.out; omega) .i64 (j : Int) rfl rfl rfl _) ?_)
            go_wp2_with fail
            go_roundw
            case rel => exact ⟨j + 1, by omega, by go_num, by rw [X.out, Y.out, beVal_take l j (by have := QE.out; have := MQ.out; omega)] <;> go_num, trivial⟩
            case measure => simp [intOf]; omega
          · have hD : decide (j < M) = false := by simp; omega
            have hE : decide ((j : Int) < (M : Int)) = false := by simp; omega
            have JE := Lib.hid (show y = beVal (l.take M) by rw [Y.out, show j = M by have := J.out; omega])
            rw [← HW.out]
            clear hy
            go_wp2_with (refine wpList_val rfl (rd_from 9 (.tmp 39) (.tmp 40) rfl Tryd.underlying9 l M (by have := QE.out; have := MQ.out; omega) rfl rfl _) ?_)
            go_wp2_with fail
            refine ret_ref (w.heap.size + 1) ⟨l.drop M, 0⟩ _ rfl rfl rfl rfl (ha_new _ _ _ (by simp)) ⟨by rw [F.out, ← JE.out]; rfl, below2 _ _ _⟩
  · have hE : ((e : Int) == 0) = false := by simp; omega
    have hE2 : ((e : Int) != 0) = true := by simp; omega
    have F := Lib.hid (show T = (⟨l, e⟩, [], false) by rw [TE.out, takeS, if_pos (.inr he)])
    go_wp2_with fail
    refine ret_ref (w.heap.size + 1) ⟨l, e⟩ _ rfl rfl rfl rfl (ha_new _ _ _ (by simp)) ⟨by rw [F.out]; rfl, below2 _ _ _⟩
end Go.Proofs.YtihllbhmnkckaaaDoor
