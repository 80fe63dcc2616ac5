/- The document's numbers: multiplied. -/
import Derived.Test.YtdheopihcohciaaRefAdd
import Derived.Test.YtdheopihcohciaaMake
namespace Go.Proofs.Ytdheopihcohciaa
set_option linter.unusedVariables false
set_option linter.unusedSimpArgs false
open Go.RowKit
attribute [local go_sem ↓] Go.wp_at_zero Go.wp_at_succ

theorem valB_set (l : List Nat) (j x : Nat) (hj : j < l.length) : valB (l.set j (l.getD j 0 + x)) = valB l + 256 ^ j * x := by
  have e : l = l.take j ++ (l.getD j 0 :: l.drop (j + 1)) := by
    have h1 : l.drop j = l.getD j 0 :: l.drop (j + 1) := by rw [List.drop_eq_getElem_cons hj]; simp [List.getD_eq_getElem?_getD, hj]
    rw [← h1, List.take_append_drop]
  have e2 : l.set j (l.getD j 0 + x) = l.take j ++ ((l.getD j 0 + x) :: l.drop (j + 1)) := List.set_eq_take_append_cons_drop.trans (if_pos hj)
  rw [e2, valB_append, valB]
  conv => rhs; rw [e]
  rw [valB_append, valB, List.length_take, Nat.min_eq_left (by omega)]
  grind
theorem valB_take (l : List Nat) (i : Nat) (hi : i < l.length) : valB (l.take (i + 1)) = valB (l.take i) + 256 ^ i * l.getD i 0 := by
  rw [List.take_add_one, List.getElem?_eq_getElem hi]
  rw [valB_append, List.length_take, Nat.min_eq_left (by omega)]
  simp [valB, List.getD_eq_getElem?_getD, hi]
/-- While they are multiplied. -/
structure TimS (a b acc : List Nat) (i k : Nat) : Prop where
  val : valB acc = valB (a.take i) * valB b + 256 ^ i * (a.getD i 0 * valB (b.take k))
  len : acc.length = a.length + b.length
  bd : ∀ j, acc.getD j 0 ≤ 65025 * (1000 * i + k)
theorem TimS.start (a b : List Nat) : TimS a b (List.replicate (a.length + b.length) 0) 0 0 := by
  have z : ∀ n, valB (List.replicate n 0) = 0 := fun n => by
    induction n with
    | zero => rfl
    | succ n ih => rw [List.replicate_succ, valB, ih]
  refine ⟨by simp [z, valB], by simp, fun j => ?_⟩
  rw [List.getD_eq_getElem?_getD, List.getElem?_replicate]
  split <;> simp
theorem TimS.step {a b acc : List Nat} {i k : Nat} (h : TimS a b acc i k) (hi : i < a.length) (hk : k < b.length) (ha : ∀ d ∈ a, d ≤ 255) (hb : ∀ d ∈ b, d ≤ 255) : TimS a b (acc.set (i + k) (acc.getD (i + k) 0 + a.getD i 0 * b.getD k 0)) i (k + 1) where
  val := by
    rw [valB_set _ _ _ (by rw [h.len]; omega), h.val, valB_take b k hk, Nat.pow_add]
    grind
  len := by rw [List.length_set, h.len]
  bd := fun j => by
    have h1 := h.bd j
    have h2 := h.bd (i + k)
    have h3 : a.getD i 0 * b.getD k 0 ≤ 255 * 255 := Nat.mul_le_mul (getD_le ha i) (getD_le hb k)
    rw [List.getD_eq_getElem?_getD, List.getElem?_set]
    split
    · split
      · simp only [Option.getD_some]
        omega
      · simp
    · rw [← List.getD_eq_getElem?_getD]
      omega
theorem TimS.next {a b acc : List Nat} {i : Nat} (h : TimS a b acc i b.length) (hi : i < a.length) (hb : b.length ≤ 1000) : TimS a b acc (i + 1) 0 where
  val := by
    rw [h.val, List.take_length, valB_take a i hi]
    simp only [List.take_zero, valB, Nat.mul_zero, Nat.add_zero]
    grind
  len := h.len
  bd := fun j => by have := h.bd j; omega
theorem TimS.done {a b acc : List Nat} (h : TimS a b acc a.length 0) : valB acc = valB a * valB b := by
  have := h.val
  rw [List.take_length] at this
  simpa [valB] using this
def WI (l : List Nat) : Array Value := (NumV l).toArray
theorem WI_size (l : List Nat) : (WI l).size = l.length := by simp [WI, NumV]
theorem WI_get (l : List Nat) (i : Nat) (h : i < l.length) : (WI l)[i]? = some (.int .i64 ((l.getD i 0 : Nat) : Int)) := by simp [WI, NumV, h]
theorem WI_set (l : List Nat) (i x : Nat) : (WI l).setIfInBounds i (.int .i64 (x : Int)) = WI (l.set i x) := by simp [WI, NumV, List.map_set]
theorem made_WI (n : Nat) : madeCells #[Value.int .i64 0] n = WI (List.replicate n 0) := by
  rw [← Array.toArray_toList (xs := madeCells #[Value.int .i64 0] n), toList_madeCells_one]
  simp [WI, NumV]
theorem makeI_run (n : Nat) (hn : n ≤ 1000000) (W : World) : (Instr.makeSlice 69 (.int .i64 (n : Int)) (.int .i64 (n : Int))).run Try.prog W = .ok (.slice (some ⟨W.heap.size, 0, none⟩) n n) (W.alloc (.cells (WI (List.replicate n 0)) 3)) := by
  have h := Go.run_make_row' (P := Try.prog) 69 3 (.int .i64 0) 8 Try.underlying69 (by kernel_rfl) rfl .i64 .i64 n (by omega) (by omega) W
  rw [made_WI] at h
  exact h
theorem RdV.rowI {w : World} {g : Nat} {l : List Nat} {t : TypeId} {fr : Nat × Nat} (h : w.heap[g]? = Option.some (.cells (WI l) t fr)) : RdV w (Option.some ⟨g, 0, none⟩) (NumV l) := RdV.row h
/-- The call's own row. -/
structure OwI (w : World) (g : Nat) (l : List Nat) (W : World) : Prop where
  b : W.heap[g]? = some (.cells (WI l) 3 (0, 0))
  hg : w.heap.size ≤ g
  bel : Below w.heap.size w W
theorem OwI.keep {w W W' : World} {g : Nat} {l : List Nat} (h : OwI w g l W) (hb : Below W.heap.size W W') : OwI w g l W' := ⟨below_block hb (row_lt h.b) h.b, h.hg, h.bel.trans (hb.mono h.bel.size)⟩
theorem OwI.set {w W : World} {g : Nat} {l : List Nat} (h : OwI w g l W) (i x : Nat) : OwI w g (l.set i x) (W.setCell ⟨g, i, none⟩ (.int .i64 (x : Int))) where
  b := by rw [heap_setCell_same _ _ _ _ _ _ h.b, WI_set]
  hg := h.hg
  bel := h.bel.trans (grown_below (grown_set (World.grownBy.refl W (some g)) _ _) h.bel.size (by rintro k ⟨⟩; exact h.hg))
theorem muladd_ex (u x y : Nat) (hx : x ≤ 255) (hy : y ≤ 255) (hu : u ≤ 1099511627776) : ∃ z : Nat, Hid (z = u + x * y) ∧ IntKind.i64.wrap ((u : Int) + IntKind.i64.wrap ((x : Int) * (y : Int))) = (z : Int) := by
  refine ⟨_, rfl, ?_⟩
  have h : x * y ≤ 255 * 255 := Nat.mul_le_mul hx hy
  rw [← Int.natCast_mul]
  generalize x * y = m at *
  simp only [IntKind.wrap_i64]
  omega
set_option maxRecDepth 100000 in
set_option maxHeartbeats 2000000 in
theorem ntim_any (a b : List Nat) (ha : ∀ d ∈ a, d ≤ 255) (hb : ∀ d ∈ b, d ≤ 255) (A : Option Addr) (n c : Nat) (hn : a.length = n) (A' : Option Addr) (n' c' : Nat) (hn' : b.length = n') (hm : n ≤ 400) (hm' : n' ≤ 400) (w : World) (hR : RdV w A (NumV a)) (hR' : RdV w A' (NumV b)) :
    Calls Try.prog 38 #[.slice A n c, .slice A' n' c'] w fun e w' => ∃ v o, e = .returned v ∧ OwnV w' w.heap.size 3 v (NumV o) ∧ Digs o (valB a * valB b) (n + n') ∧ Below w.heap.size w w' := by
  have HA := Lib.hid ha
  have HB := Lib.hid hb
  have HN := Lib.hid hn
  have HN' := Lib.hid hn'
  have HR := Lib.hid hR
  have HR' := Lib.hid hR'
  have nb : (n : Int) ≤ 400 := by omega
  have nb' : (n' : Int) ≤ 400 := by omega
  obtain ⟨N, hN⟩ : ∃ N, N = n + n' := ⟨_, rfl⟩
  have e1 : (n : Int) + (n' : Int) = (N : Int) := by omega
  have mk := makeI_run N (by omega)
  have NE := Lib.hid hN
  have NB := Lib.hid (show n ≤ 400 ∧ n' ≤ 400 from ⟨hm, hm'⟩)
  obtain ⟨i0, hi, hz0, hz1, hz2⟩ := info_parts (show (Try.prog.info? 3).map (fun i => (i.zero, i.size, i.bytes)) = some (some (.int .i64 0), 1, 8) by kernel_rfl)
  have I0 := Lib.hid hi
  have I2 := Lib.hid hz1
  clear ha hb hn hn' hR hR' hm hm' hN hi hz0 hz1 hz2
  go_enter Try.func38, Try.ntmps38
  go_upto_region 2 with fail
  clear e1 mk
  obtain ⟨g, hg⟩ : ∃ g, g = w.heap.size := ⟨_, rfl⟩
  obtain ⟨w1, hw1⟩ : ∃ w1, w1 = w.alloc (.cells (WI (List.replicate N 0)) 3) := ⟨_, rfl⟩
  have W1 := Lib.hid (show OwI w g (List.replicate N 0) w1 by rw [hw1]; exact ⟨ha_new _ _ _ hg, by omega, (Below.refl _ _).alloc (Nat.le_refl _) _⟩)
  rw [← hg, ← hw1]
  clear hg hw1
  go_wp2_with fail
  go_loopw [6, 7] (fun i _ wr => ∃ (j : Nat) (acc : List Nat), j ≤ n ∧ i = .int .i64 (j : Int) ∧ TimS a b acc j 0 ∧ OwI w g acc wr) (fun i _ _ => n - (intOf i).toNat)
  case atStart => exact ⟨0, _, by omega, rfl, by have := TimS.start a b; rw [HN.out, HN'.out, ← NE.out] at this; exact this, W1.out⟩
  case round =>
    obtain ⟨j, acc, hj, rfl, ht, hw⟩ := hrel
    have T1 := Lib.hid ht
    have W2 := Lib.hid hw
    clear ht hw W1
    by_cases hlt : j < n
    · have hD : decide ((j : Int) < (n : Int)) = true := by simp; omega
      have JN := Lib.hid hlt
      have jb : (j : Int) ≤ 400 := by omega
      go_wp2_with fail
      clear hlt hj
      go_loopw [7] (fun u wq => ∃ (k : Nat) (acc' : List Nat), k ≤ n' ∧ u = .int .i64 (k : Int) ∧ TimS a b acc' j k ∧ OwI w g acc' wq) (fun u _ => n' - (intOf u).toNat)
      case atStart => exact ⟨0, acc, by omega, rfl, T1.out, W2.out⟩
      case round =>
        obtain ⟨k, ac, hk, rfl, ht, hw⟩ := hrel
        have T2 := Lib.hid ht
        have W3 := Lib.hid hw
        clear ht hw T1 W2 hD
        by_cases hlk : k < n'
        · have hE : decide ((k : Int) < (n' : Int)) = true := by simp; omega
          have KN := Lib.hid hlk
          have kb : (k : Int) ≤ 400 := by omega
          go_upto_region 8 with fail
          have W4 := Lib.hid (W3.out.keep (Below.refl _ _).drew)
          obtain ⟨ba, oa, rfl, hca⟩ := HR.out j _ (NumV_get a j (by rw [HN.out]; exact JN.out))
          obtain ⟨bb, ob, rfl, hcb⟩ := HR'.out k _ (NumV_get b k (by rw [HN'.out]; exact KN.out))
          obtain ⟨x, hx⟩ : ∃ x, x = a.getD j 0 := ⟨_, rfl⟩
          obtain ⟨y, hy⟩ : ∃ x, x = b.getD k 0 := ⟨_, rfl⟩
          obtain ⟨u, hu⟩ : ∃ x, x = ac.getD (j + k) 0 := ⟨_, rfl⟩
          have LA := Lib.hid (show j + k < ac.length by rw [T2.out.len, HN.out, HN'.out]; have := JN.out; have := KN.out; omega)
          have ST := Lib.hid (show TimS a b (ac.set (j + k) (u + x * y)) j (k + 1) by rw [hx, hy, hu]; exact T2.out.step (by rw [HN.out]; exact JN.out) (by rw [HN'.out]; exact KN.out) HA.out HB.out)
          rw [← hx] at hca
          rw [← hy] at hcb
          have CA := Lib.hid (fun (W : World) (hW : OwI w g ac W) => cell_grown (grown_of_below hW.bel) hca (by simp))
          have CB := Lib.hid (fun (W : World) (hW : OwI w g ac W) => cell_grown (grown_of_below hW.bel) hcb (by simp))
          have CU := Lib.hid (fun (W : World) (hW : OwI w g ac W) => (show W.cell? ⟨g, 0 + (j + k), none⟩ = some (.int .i64 (u : Int)) by rw [Nat.zero_add, hu]; exact row_cell hW.b (j + k) (WI_get _ _ LA.out)))
          have ei : Hid (IntKind.i64.wrap ((j : Int) + (k : Int)) = ((j + k : Nat) : Int)) := by show _ = _; rw [IntKind.wrap_i64]; omega
          have NL := Lib.hid (show j + k < N by have := NE.out; have := JN.out; have := KN.out; omega)
          obtain ⟨z, hz, e1⟩ := muladd_ex u x y (by rw [hx]; exact getD_le HA.out j) (by rw [hy]; exact getD_le HB.out k) (by have := T2.out.bd (j + k); rw [← hu] at this; have := NB.out; have := JN.out; have := KN.out; omega)
          clear hca hcb hx hy hu hlk hk
          refine wp_region_till (OwI w g ac) 21 [(true, 0), (true, 1), (true, 2), (true, 3), (true, 4), (true, 5), (true, 6), (true, 7), (true, 8), (true, 9), (true, 10), (true, 11), (true, 12), (true, 13), (true, 14), (true, 15), (true, 16), (true, 17), (true, 18), (true, 19), (true, 20)] _ (by kernel_rfl) (by kernel_rfl) rfl (fun _ _ d _ _ h => by cases d <;> exact h) ?_
          simp only [List.filterMap_cons, List.filterMap_nil, List.getElem?_toArray, List.getElem?_cons_zero, List.getElem?_cons_succ, Option.map_some]
          refine till_q (v := ?_) (by rfl) (W4.out) ?_ ?_
          rotate_left
          · intro W hW
            go_simp
            with_reducible rfl
          simp only [Act.put, List.setIfInBounds_toArray, List.set_cons_zero, List.set_cons_succ]
          refine till_q (v := ?_) (by rfl) (W4.out) ?_ ?_
          rotate_left
          · intro W hW
            go_simp
            with_reducible rfl
          simp only [Act.put, List.setIfInBounds_toArray, List.set_cons_zero, List.set_cons_succ]
          refine till_q (v := ?_) (by rfl) (W4.out) ?_ ?_
          rotate_left
          · intro W hW
            go_simp
            with_reducible rfl
          simp only [Act.put, List.setIfInBounds_toArray, List.set_cons_zero, List.set_cons_succ]
          refine till_q (v := ?_) (by rfl) (W4.out) ?_ ?_
          rotate_left
          · intro W hW
            go_simp
            with_reducible rfl
          simp only [Act.put, List.setIfInBounds_toArray, List.set_cons_zero, List.set_cons_succ]
          refine till_q (v := ?_) (by rfl) (W4.out) ?_ ?_
          rotate_left
          · intro W hW
            go_simp
            with_reducible rfl
          simp only [Act.put, List.setIfInBounds_toArray, List.set_cons_zero, List.set_cons_succ]
          refine till_q (v := ?_) (by rfl) (W4.out) ?_ ?_
          rotate_left
          · intro W hW
            go_simp
            with_reducible rfl
          simp only [Act.put, List.setIfInBounds_toArray, List.set_cons_zero, List.set_cons_succ]
          refine till_q (v := ?_) (by rfl) (W4.out) ?_ ?_
          rotate_left
          · intro W hW
            go_simp
            with_reducible rfl
          simp only [Act.put, List.setIfInBounds_toArray, List.set_cons_zero, List.set_cons_succ]
          refine till_q (v := ?_) (by rfl) (W4.out) ?_ ?_
          rotate_left
          · intro W hW
            go_simp
            with_reducible rfl
          simp only [Act.put, List.setIfInBounds_toArray, List.set_cons_zero, List.set_cons_succ]
          refine till_q (by rfl) (W4.out) (fun W hW => run_iaddr_sl 69 (.tmp 30) (.tmp 33) rfl 3 Try.underlying69 I0.out I2.out g 0 N N (j + k) NL.out .i64 _ ei.out rfl rfl W) ?_
          simp only [Act.put, List.setIfInBounds_toArray, List.set_cons_zero, List.set_cons_succ]
          refine till_q (by rfl) (W4.out) (fun W hW => run_cell 3 (.tmp 34) rfl _ Try.underlying3 rfl rfl (CU.out W hW)) ?_
          simp only [Act.put, List.setIfInBounds_toArray, List.set_cons_zero, List.set_cons_succ]
          refine till_q (v := ?_) (by rfl) (W4.out) ?_ ?_
          rotate_left
          · intro W hW
            go_simp
            with_reducible rfl
          simp only [Act.put, List.setIfInBounds_toArray, List.set_cons_zero, List.set_cons_succ]
          refine till_q (v := ?_) (by rfl) (W4.out) ?_ ?_
          rotate_left
          · intro W hW
            go_simp
            with_reducible rfl
          simp only [Act.put, List.setIfInBounds_toArray, List.set_cons_zero, List.set_cons_succ]
          refine till_q (by rfl) (W4.out) (fun W hW => run_iaddr_sl 69 (.tmp 36) (.tmp 37) rfl 3 Try.underlying69 I0.out I2.out ba oa n c j JN.out .i64 _ rfl rfl rfl W) ?_
          simp only [Act.put, List.setIfInBounds_toArray, List.set_cons_zero, List.set_cons_succ]
          refine till_q (by rfl) (W4.out) (fun W hW => run_cell 3 (.tmp 38) rfl _ Try.underlying3 rfl rfl (CA.out W hW)) ?_
          simp only [Act.put, List.setIfInBounds_toArray, List.set_cons_zero, List.set_cons_succ]
          refine till_q (v := ?_) (by rfl) (W4.out) ?_ ?_
          rotate_left
          · intro W hW
            go_simp
            with_reducible rfl
          simp only [Act.put, List.setIfInBounds_toArray, List.set_cons_zero, List.set_cons_succ]
          refine till_q (v := ?_) (by rfl) (W4.out) ?_ ?_
          rotate_left
          · intro W hW
            go_simp
            with_reducible rfl
          simp only [Act.put, List.setIfInBounds_toArray, List.set_cons_zero, List.set_cons_succ]
          refine till_q (by rfl) (W4.out) (fun W hW => run_iaddr_sl 69 (.tmp 40) (.tmp 41) rfl 3 Try.underlying69 I0.out I2.out bb ob n' c' k KN.out .i64 _ rfl rfl rfl W) ?_
          simp only [Act.put, List.setIfInBounds_toArray, List.set_cons_zero, List.set_cons_succ]
          refine till_q (by rfl) (W4.out) (fun W hW => run_cell 3 (.tmp 42) rfl _ Try.underlying3 rfl rfl (CB.out W hW)) ?_
          simp only [Act.put, List.setIfInBounds_toArray, List.set_cons_zero, List.set_cons_succ]
          refine till_q (v := ?_) (by rfl) (W4.out) ?_ ?_
          rotate_left
          · intro W hW
            go_simp
            with_reducible rfl
          simp only [Act.put, List.setIfInBounds_toArray, List.set_cons_zero, List.set_cons_succ]
          refine till_q (v := ?_) (by rfl) (W4.out) ?_ ?_
          rotate_left
          · intro W hW
            go_simp
            with_reducible rfl
          simp only [Act.put, List.setIfInBounds_toArray, List.set_cons_zero, List.set_cons_succ]
          clear e1
          refine till_q (by rfl) (W4.out) (fun W hW => run_iaddr_sl 69 (.tmp 26) (.tmp 29) rfl 3 Try.underlying69 I0.out I2.out g 0 N N (j + k) NL.out .i64 _ ei.out rfl rfl W) ?_
          simp only [Act.put, List.setIfInBounds_toArray, List.set_cons_zero, List.set_cons_succ]
          simp only [Nat.zero_add]
          have f4 := row_free W4.out.b (j + k)
          have a4 := row_cell W4.out.b (j + k) (WI_get _ _ LA.out)
          refine till_last (fun K hK => ?_)
          go_simp
          have H4 := Lib.hid ((W3.out.set (j + k) z).keep (Below.refl _ _).drew)
          obtain ⟨w4, hw4⟩ : ∃ w4, w4 = (wr.setCell ⟨g, j + k, none⟩ (.int .i64 (z : Int))).drew := ⟨_, rfl⟩
          rw [← hw4] at H4 ⊢
          clear hw4 f4 a4 W4 W3
          refine hK.out _ _ ?_
          clear hK K
          go_wp2_with fail
          go_roundw
          case rel => exact ⟨k + 1, _, by have := KN.out; omega, by go_num, by rw [← hz.out] at ST; exact ST.out, H4.out⟩
          case measure => have := KN.out; simp [intOf] <;> omega
        · have hE : decide ((k : Int) < (n' : Int)) = false := by simp; omega
          have KE := Lib.hid (show k = b.length by rw [HN'.out]; omega)
          go_wp2_with fail
          go_roundw
          case rel => exact ⟨j + 1, ac, by have := JN.out; omega, by go_num, by have := T2.out; rw [KE.out] at this; exact this.next (by rw [HN.out]; exact JN.out) (by rw [HN'.out]; omega), W3.out⟩
          case measure => have := JN.out; simp [intOf] <;> omega
    · have hD : decide ((j : Int) < (n : Int)) = false := by simp; omega
      have JE := Lib.hid (show j = a.length by rw [HN.out]; omega)
      go_wp2_with fail
      have DV := Lib.hid (show valB acc = valB a * valB b by have := T1.out; rw [JE.out] at this; exact this.done)
      have DL := Lib.hid (show acc.length = N by rw [T1.out.len, HN.out, HN'.out, NE.out])
      refine (carried_any acc ?dl (some ⟨g, 0, none⟩) N N DL.out (by have := NB.out; have := NE.out; omega) _ (RdV.rowI W2.out.b)).mono ?_
      case dl =>
        intro d hd
        obtain ⟨i, hi, rfl⟩ := List.mem_iff_getElem.1 hd
        have h1 := T1.out.bd i
        have h2 := NB.out
        rw [List.getD_eq_getElem?_getD, List.getElem?_eq_getElem hi, Option.getD_some] at h1
        omega
      rintro e w2 ⟨v, o, rfl, ho, hd, hb⟩
      rw [DV.out] at hd
      have O2 := Lib.hid (ho.mono W2.out.bel.size)
      have D2 := Lib.hid hd
      have B2 := Lib.hid (W2.out.bel.trans (hb.mono W2.out.bel.size))
      clear ho hd hb
      go_wp2_with fail
      go_ret
      exact ⟨_, o, rfl, O2.out, by have := D2.out; rwa [NE.out] at this, B2.out⟩
end Go.Proofs.Ytdheopihcohciaa
