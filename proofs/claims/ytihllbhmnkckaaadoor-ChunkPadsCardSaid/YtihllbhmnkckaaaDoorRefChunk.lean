/- The document's padding. No condition but those each theorem states. -/
import Derived.Test.YtihllbhmnkckaaaDoorUnpadL
import Derived.Test.YtihllbhmnkckaaaDoorRefRd
import Derived.Test.YtihllbhmnkckaaaDoorRefSized
import Derived.Test.YtihllbhmnkckaaaDoorStrMid
namespace Go.Proofs.YtihllbhmnkckaaaDoor
set_option linter.unusedVariables false
set_option linter.unusedSimpArgs false
open Go.RowKit
attribute [local go_sem ↓] Go.wp_at_zero Go.wp_at_succ

set_option maxRecDepth 100000 in
theorem rpadded_any (w : World) (n : Int) :
    Calls Tryd.prog 11 #[.int .i64 n] w fun e w' => e = .returned (.int .i64 (padI n : Int)) ∧ w' = w := by
  by_cases h0 : n < 0
  · have hD : decide (n < 0) = true := by simp; omega
    have e1 : Hid (padI n = 0) := by show _ = _; unfold padI; rw [if_pos h0]
    go_enter Tryd.func11, Tryd.ntmps11
    go_wp2_with fail
    go_ret
    rw [e1.out]
    exact ⟨rfl, rfl⟩
  · have hD : decide (n < 0) = false := by simp; omega
    by_cases h1 : 4194304 < n
    · have hD2 : decide (4194304 < n) = true := by simp; omega
      have e1 : Hid (padI n = 0) := by show _ = _; unfold padI padN; rw [if_neg h0, if_neg (by omega)]
      go_enter Tryd.func11, Tryd.ntmps11
      go_wp2_with fail
      go_ret
      rw [e1.out]
      exact ⟨rfl, rfl⟩
    · have hD2 : decide (4194304 < n) = false := by simp; omega
      obtain ⟨q, hq⟩ : ∃ q : Nat, (n + 4 + 255) / 256 = (q : Int) := ⟨((n + 4 + 255) / 256).toNat, by omega⟩
      have e1 : Hid (padI n = q * 256) := by show _ = _; unfold padI padN; rw [if_neg h0, if_pos (by omega)]; omega
      have hq2 : q ≤ 100000 := by omega
      go_enter Tryd.func11, Tryd.ntmps11
      go_wp2_with fail
      go_ret
      rw [e1.out]
      refine ⟨?_, rfl⟩
      show Ending.returned (.int .i64 _) = Ending.returned (.int .i64 _)
      congr 2
      try omega
theorem rcount_any (w : World) (n : Int) :
    Calls Tryd.prog 13 #[.int .i64 n] w fun e w' => e = .returned (.int .i64 (((padI n + 2047) / 2048 : Nat) : Int)) ∧ w' = w := by
  go_enter Tryd.func13, Tryd.ntmps13
  go_wp2_with fail
  refine (rpadded_any w n).mono ?_
  rintro e w1 ⟨rfl, rfl⟩
  obtain ⟨p, hp⟩ : ∃ p, p = padI n := ⟨_, rfl⟩
  have h2 := padI_le n
  obtain ⟨q, hq⟩ : ∃ q : Nat, ((p : Int) + 2047) / 2048 = (q : Int) := ⟨(p + 2047) / 2048, by omega⟩
  have e3 : Hid (((padI n + 2047) / 2048 : Nat) = q) := by show _ = _; subst hp; omega
  have QH := Lib.hid hq
  rw [← hp] at h2 ⊢
  clear hp hq
  go_wp2_with fail
  go_ret
  rw [e3.out]
  exact ⟨congrArg (fun z => Ending.returned (.int .i64 z)) QH.out, rfl⟩
def strLen : Value → Nat
  | .string s => s.size
  | _ => 0
set_option maxRecDepth 100000 in
set_option maxHeartbeats 1000000 in
theorem rpad_any (w : World) (l : List UInt8) (n : Nat) (hn : l.length = n) (hb : n ≤ 100000) :
    Calls Tryd.prog 9 #[.string (strB l)] w fun e w' => e = .returned (.tuple #[.string (strB (padL l)), .int .i64 0]) ∧ Below w.heap.size w w' := by
  have HN := Lib.hid hn
  have HB := Lib.hid hb
  have SZ := strB_size l
  rw [hn] at SZ
  have nb : (n : Int) ≤ 100000 := by omega
  have hD : decide ((4194304 : Int) < (n : Int)) = false := by simp; omega
  obtain ⟨T, hT⟩ : ∃ T, T = padL l := ⟨_, rfl⟩
  have TE := Lib.hid hT
  rw [← hT]
  obtain ⟨k, hk⟩ : ∃ k, padN n = n + 4 + k := ⟨padN n - (n + 4), by have := padN_ge n (by omega); omega⟩
  have KE := Lib.hid hk
  have K256 := Lib.hid (show k < 256 by unfold padN at hk; rw [if_pos (by omega)] at hk; omega)
  have KM := Lib.hid (show (n + 4 + k) % 256 = 0 by rw [← hk]; exact padN_mod n)
  clear hn hb hT hk
  go_enter Tryd.func9, Tryd.ntmps9
  go_upto_region 3 with fail
  rw [show (⟨#[]⟩ : ByteArray) = strB [] from rfl]
  clear SZ
  go_wp2_with fail
  refine (rsized_any [] l n HN.out (by simp) (by have := HB.out; omega) w).mono ?_
  rw [List.nil_append]
  rintro e w1 ⟨rfl, hb1⟩
  have S := Lib.hid hb1
  clear hb1
  go_wp2_with fail
  go_loopw [4] (fun u wr => ∃ j : Nat, j ≤ k ∧ u = .string (strB (sizedL l ++ List.replicate j 0)) ∧ wr = w1) (fun u _ => 200000 - strLen u)
  case atStart => exact ⟨0, by omega, by simp, rfl⟩
  case round =>
    obtain ⟨j, hj, rfl, hw⟩ := hrel
    rw [hw]
    have J := Lib.hid hj
    obtain ⟨X, hX⟩ : ∃ X, X = sizedL l ++ List.replicate j 0 := ⟨_, rfl⟩
    rw [← hX]
    have XE := Lib.hid hX
    obtain ⟨m, hm⟩ : ∃ m, m = X.length := ⟨_, rfl⟩
    have ME := Lib.hid (show m = n + 4 + j by rw [hm, hX, List.length_append, sizedL_length, HN.out, List.length_replicate])
    have ML := Lib.hid hm.symm
    have SZ := strB_size X
    rw [← hm] at SZ
    obtain ⟨r, hr⟩ : ∃ r, r = m % 256 := ⟨_, rfl⟩
    have R := Lib.hid hr
    have e1 : (m : Int) % 256 = (r : Int) := by omega
    have mb : (m : Int) ≤ 100300 := by have := ME.out; have := HB.out; have := J.out; have := K256.out; omega
    clear hj hw hX hm hr wr
    by_cases h0 : r = 0
    · have hE : ((r : Int) == 0) = true := by simp [h0]
      have F := Lib.hid (show X = T by
        rw [XE.out, TE.out, padL, HN.out, KE.out, show n + 4 + k - (n + 4) = j by have := J.out; have := K256.out; have := KM.out; have := R.out; have := ME.out; omega])
      clear h0
      go_wp2_with fail
      go_ret2
      rw [F.out]
      exact ⟨rfl, S.out⟩
    · have hE : ((r : Int) == 0) = false := by simp; omega
      have J2 := Lib.hid (show j < k by
        rcases Nat.lt_or_ge j k with h | h
        · exact h
        · exact absurd (by rw [R.out, ME.out, show j = k by have := J.out; omega]; exact KM.out) h0)
      have N2 := Lib.hid (show X ++ [0] = sizedL l ++ List.replicate (j + 1) 0 by rw [XE.out, List.append_assoc, List.replicate_succ'])
      clear h0
      go_wp2_with (refine wpList_val rfl (run_cat 9 _ (.tmp 14) (.const (.string { data := #[0] })) rfl X [0] rfl rfl (by have := ML.out; simp; omega) _) ?_)
      go_roundw
      case rel => exact ⟨j + 1, by have := J2.out; omega, by rw [N2.out], by first | rfl | trivial⟩
      case measure => simp [strLen, strB_size]; have := ML.out; omega
/-- By the document: padded anew it is what it was. -/
theorem unpad_ref (l : List UInt8) (h4 : 4 ≤ l.length) (hm : lenL l ≤ 4194304) (hl : lenL l + 4 ≤ l.length) :
    unpadS l = if padL ((l.drop 4).take (lenL l)) = l then some ((l.drop 4).take (lenL l)) else none := by
  split
  · rename_i h
    conv => lhs; rw [← h]
    exact unpad_pad _ (by rw [List.length_take]; omega)
  · rename_i h
    cases hu : unpadS l with
    | none => rfl
    | some t =>
      obtain ⟨h1, h2⟩ := unpad_some _ _ hu
      exfalso
      apply h
      have e1 : lenL l = t.length := by rw [← h2]; exact lenL_pad _ _ h1
      have e2 : (l.drop 4).take (lenL l) = t := by
        rw [e1]
        conv => lhs; rw [← h2]
        rw [padL, pad_drop, List.take_left]
      rw [e2]
      exact h2
theorem lenL_short (l : List UInt8) (h : l.length < 4) : lenL l = 0 := by
  unfold lenL takeS
  rw [if_neg (by simp), if_pos (by simp; omega)]
  rfl
theorem unpad_bad (l : List UInt8) (h : l.length < 4 ∨ 4194304 < lenL l ∨ l.length < lenL l + 4) : unpadS l = none := by
  cases hu : unpadS l with
  | none => rfl
  | some t =>
    obtain ⟨h1, h2⟩ := unpad_some _ _ hu
    have e1 : lenL l = t.length := by rw [← h2]; exact lenL_pad _ _ h1
    have e2 := padL_length t h1
    have e3 := padN_ge t.length h1
    rw [h2] at e2
    omega
theorem run_neqstr_u {P : Program} {o : Oper} {a : Act} (t t2 : TypeId) (x y : Operand) (ho : o.op = .binOp .neq t x y t2) (l l' : List UInt8) (h : l ≠ l') (hx : a.eval x = .string (strB l)) (hy : a.eval y = .string (strB l')) (W : World) : (execOp a.eval o).run P W = .ok (.value (.bool true)) W := by
  have e : ((strB l).toList == (strB l').toList) = false := by rw [strB_beq]; simpa using h
  unfold execOp
  simp only [ho, hx, hy, Sem.run_bind, Sem.run_pure]
  go_simp
theorem lenL_lt (l : List UInt8) : lenL l ≤ 4294967295 := by
  have h1 := beVal_lt (takeS ⟨l, 0⟩ 4).2.1
  have h2 := takeS_le ⟨l, 0⟩ 4 4 (by omega)
  have h3 : 256 ^ (takeS ⟨l, 0⟩ 4).2.1.length ≤ 256 ^ 4 := Nat.pow_le_pow_right (by omega) h2
  have h4 : (256 : Nat) ^ 4 = 4294967296 := by decide
  unfold lenL
  omega
theorem store_refc {ops : Array Oper} {rest : List Oper} {o : Oper} {a : Act} {Q : Exit → Act → World → Prop} {w : World} (hgd : o.guard = none) (hdst : o.dst = none) (x y : Operand) (ho : o.op = .store 44 x y)
    (g : Nat) (s : RSt) (hx : a.eval x = .pointer (some ⟨g, 0, none⟩)) (hy : a.eval y = refV s) (old : RSt) (hg : RefB w g old)
    (h : ∀ w', w.grownBy w' (some g) → w'.heap.size = w.heap.size → wpList Tryd.prog ops Q rest a w') : wpList Tryd.prog ops Q (o :: rest) a w :=
  wpList_store_whole hgd hdst 44 x y ho g #[.string (strB s.l), .int .i64 (s.e : Int)] hx hy 44 #[.string (strB old.l), .int .i64 (old.e : Int)] hg info_ref rfl (ref_one _ _) (fun w' _ h2 h3 => h w' h2 h3)
def RUnpadP (w : World) (r : Option (List UInt8)) (e : Ending) (w' : World) : Prop := e = .returned (.tuple #[.string (strB (r.getD [])), .int .i64 (if r.isSome then 0 else 11)]) ∧ Below w.heap.size w w'
set_option maxRecDepth 100000 in
set_option maxHeartbeats 4000000 in
theorem runpad_any (w : World) (l : List UInt8) (q : Nat) (hq : l.length = q) (hb : q ≤ 50000) :
    Calls Tryd.prog 10 #[.string (strB l)] w (RUnpadP w (unpadS l)) := by
  have HQ := Lib.hid hq
  have HB := Lib.hid hb
  have SZ := strB_size l
  rw [hq] at SZ
  have qb : (q : Int) ≤ 50000 := by omega
  obtain ⟨m, hm⟩ : ∃ m, m = lenL l := ⟨_, rfl⟩
  have M := Lib.hid hm
  have ML := Lib.hid (show m ≤ 4294967295 by rw [hm]; exact lenL_lt l)
  have mb : (m : Int) ≤ 4294967295 := by have := ML.out; omega
  obtain ⟨s1, hs1⟩ : ∃ s1, s1 = (numS ⟨l, 0⟩ 4).1 := ⟨_, rfl⟩
  have S1 := Lib.hid hs1
  obtain ⟨r, hr⟩ : ∃ r, r = unpadS l := ⟨_, rfl⟩
  have R := Lib.hid hr
  rw [← hr]
  clear hq hb hm hs1 hr
  go_enter Tryd.func10, Tryd.ntmps10
  go_wp2_with fail
  refine (rnum_any w ⟨l, 0⟩ (by show l.length ≤ 100000; rw [HQ.out]; have := HB.out; omega) 4 (by omega)).mono ?_
  rw [lenL_nat, ← M.out, ← S1.out]
  rintro e w1 ⟨rfl, hb⟩
  have S := Lib.hid hb
  clear hb
  go_upto_region 2 with (refine store_refc rfl rfl (.tmp 4) (.tmp 13) rfl w1.heap.size s1 rfl rfl ⟨[], 0⟩ (ha_new _ _ _ rfl) ?_; intro w2 hg _)
  have S := Lib.hid (show Below w.heap.size w w2 from (S.out.trans ((below_new w1 _).mono S.out.size)).trans (grown_below hg (by have := S.out.size; simp; omega) (by rintro k ⟨⟩; exact S.out.size)))
  clear hg
  by_cases h4 : q < 4
  · have hD1 : decide ((q : Int) < 4) = true := by simp; omega
    have hD2 : decide (q < 4) = true := by simp; omega
    have N := Lib.hid (show r = none by rw [R.out]; exact unpad_bad l (.inl (by rw [HQ.out]; exact h4)))
    clear h4
    go_wp2_with fail
    go_ret2
    rw [N.out]
    exact ⟨rfl, S.out⟩
  have hD1 : decide ((q : Int) < 4) = false := by simp; omega
  have hD2 : decide (q < 4) = false := by simp; omega
  by_cases h5 : 4194304 < m
  · have hE1 : decide ((4194304 : Int) < (m : Int)) = true := by simp; omega
    have hE2 : decide (4194304 < m) = true := by simp; omega
    have N := Lib.hid (show r = none by rw [R.out]; exact unpad_bad l (.inr (.inl (by rw [← M.out]; exact h5))))
    clear h4 h5
    go_wp2_with fail
    go_ret2
    rw [N.out]
    exact ⟨rfl, S.out⟩
  have hE1 : decide ((4194304 : Int) < (m : Int)) = false := by simp; omega
  have hE2 : decide (4194304 < m) = false := by simp; omega
  by_cases h6 : q < m + 4
  · have hF1 : decide ((q : Int) - 4 < (m : Int)) = true := by simp; omega
    have N := Lib.hid (show r = none by rw [R.out]; exact unpad_bad l (.inr (.inr (by rw [HQ.out, ← M.out]; exact h6))))
    clear h4 h5 h6
    go_wp2_with fail
    go_ret2
    rw [N.out]
    exact ⟨rfl, S.out⟩
  have hF1 : decide ((q : Int) - 4 < (m : Int)) = false := by simp; omega
  obtain ⟨t, ht⟩ : ∃ t, t = (l.drop 4).take m := ⟨_, rfl⟩
  have TE := Lib.hid ht
  have TL := Lib.hid (show t.length = m by rw [ht, List.length_take, List.length_drop, HQ.out]; omega)
  have M5 := Lib.hid (show m + 4 ≤ q by omega)
  have RE := Lib.hid (show r = if padL t = l then some t else none by rw [R.out, ht, M.out]; exact unpad_ref l (by rw [HQ.out]; omega) (by rw [← M.out]; omega) (by rw [← M.out, HQ.out]; omega))
  clear h4 h5 h6 ht
  have m5 : (m : Int) ≤ 50000 := by have := M5.out; have := HB.out; omega
  go_wp2_with (refine wpList_val rfl (run_str_mid 9 (.tmp 30) (.const (.int .i64 4)) (.tmp 33) rfl Tryd.underlying9 l 4 (4 + m) (by omega) (by rw [HQ.out]; have := M5.out; omega) rfl .i64 .i64 _ _ rfl (by first | rfl | (have := M5.out; omega)) rfl rfl _) ?_)
  rw [← TE.out]
  refine (rpad_any w2 t m TL.out (by have := M5.out; have := HB.out; omega)).mono ?_
  obtain ⟨X, hX⟩ : ∃ X, X = padL t := ⟨_, rfl⟩
  rw [← hX]
  rw [← hX] at RE
  rintro e w3 ⟨rfl, hb⟩
  have S := Lib.hid (S.out.trans (hb.mono S.out.size))
  clear hb hX
  by_cases hXl : X = l
  · have N := Lib.hid (show r = some t by rw [RE.out, if_pos hXl])
    have XL := Lib.hid hXl
    clear hXl
    go_wp2_with (refine wpList_valg rfl (run_neqstr_false 9 9 (.tmp 43) (.tmp 44) rfl X l XL.out rfl rfl _) ?_)
    go_ret2
    rw [N.out]
    exact ⟨rfl, S.out⟩
  · have N := Lib.hid (show r = none by rw [RE.out, if_neg hXl])
    have XL := Lib.hid hXl
    clear hXl
    go_wp2_with (refine wpList_valg rfl (run_neqstr_u 9 9 (.tmp 43) (.tmp 44) rfl X l XL.out rfl rfl _) ?_)
    go_ret2
    rw [N.out]
    exact ⟨rfl, S.out⟩
end Go.Proofs.YtihllbhmnkckaaaDoor
