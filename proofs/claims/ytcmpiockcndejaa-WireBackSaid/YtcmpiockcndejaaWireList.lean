/- wire.List, the laws' few and texts. No condition but those each theorem states. -/
import Derived.Test.YtcmpiockcndejaaSized
import Derived.Test.YtcmpiockcndejaaHelp
import Derived.Test.YtcmpiockcndejaaRefPut
import Derived.Test.YtcmpiockcndejaaStrRow
namespace Go.Proofs.Ytcmpiockcndejaa
set_option linter.unusedVariables false
set_option linter.unusedSimpArgs false
open Go.RowKit
attribute [local go_sem ↓] Go.wp_at_zero Go.wp_at_succ

/-- Texts, and how many. -/
def listL (ls : List (List UInt8)) : List UInt8 := beL 2 ls.length ++ (ls.map sizedL).flatten
theorem flat_take_le (ls : List (List UInt8)) (j : Nat) : (ls.take j).flatten.length ≤ ls.flatten.length := by
  conv => rhs; rw [← List.take_append_drop j ls]
  rw [List.flatten_append, List.length_append]
  omega
theorem min_ex' (m k : Nat) : ∃ q : Nat, (if (k : Int) < (m : Int) then (k : Int) else (m : Int)) = (q : Int) ∧ Hid (q = min m k) := by
  by_cases h : k < m
  · exact ⟨k, by rw [if_pos (by omega)], show k = min m k by omega⟩
  · exact ⟨m, by rw [if_neg (by omega)], show m = min m k by omega⟩
set_option maxRecDepth 100000 in
set_option maxHeartbeats 2000000 in
theorem few_any (w : World) (A : Option Addr) (n c : Nat) (vs : List Value) (ls : List (List UInt8)) (hn : vs.length = n) (hR : RdV w A vs) (hall : All2 (SlB w) vs ls) (hnb : n ≤ 140737488351232) (hmx : ∀ l ∈ ls, l.length ≤ 9223372036854775807) :
    Calls Try.prog 14 #[.slice A n c] w fun e w' => ∃ b, e = .returned (.bool b) ∧ w' = w ∧ (b = true → ls.flatten.length + 5 * n ≤ 9000) := by
  have HN := Lib.hid hn
  have HR := Lib.hid hR
  have HA := Lib.hid hall
  have HX := Lib.hid hmx
  have NL := Lib.hid (show ls.length = n by rw [← hall.length, hn])
  have nb : (n : Int) ≤ 140737488351232 := by omega
  clear hn hR hall hnb hmx
  go_enter Try.func14, Try.ntmps14
  go_wp2_with fail
  go_loopw [3, 4] (fun u i wr => ∃ (j S : Nat), j ≤ n ∧ i = .int .i64 (j : Int) ∧ u = .int .i64 (S : Int) ∧ S ≤ 9000 ∧ (ls.take j).flatten.length + 5 * j = S ∧ wr = w) (fun _ i _ => n - (intOf i).toNat)
  case atStart => exact ⟨0, 0, by omega, rfl, rfl, by omega, by simp, rfl⟩
  case round =>
    obtain ⟨j, S, hj, rfl, rfl, hS, hsum, hw⟩ := hrel
    rw [hw]
    clear hw wr
    have J := Lib.hid hj
    have SM := Lib.hid hsum
    have sb : (S : Int) ≤ 9000 := by omega
    by_cases hlt : j < n
    · have hD : decide ((j : Int) < (n : Int)) = true := by simp; omega
      obtain ⟨l, hl⟩ : ∃ l, ls[j]? = some l := ⟨_, List.getElem?_eq_getElem (by rw [NL.out]; exact hlt)⟩
      obtain ⟨v, hv, A', c', rfl, hc', hR'⟩ := HA.out.get j l hl
      obtain ⟨b, o, rfl, hcell⟩ := HR.out j _ hv
      have LX := HX.out l (List.mem_of_getElem? hl)
      have TL := Lib.hid (show (ls.take (j + 1)).flatten.length = (ls.take j).flatten.length + l.length by rw [List.take_add_one, hl]; simp)
      obtain ⟨m, hm⟩ : ∃ m, m = l.length := ⟨_, rfl⟩
      rw [← hm] at hcell LX TL
      obtain ⟨q, hq, hq2⟩ := min_ex' m 9000
      have hq : (if (9000 : Int) < (m : Int) then (9000 : Int) else (m : Int)) = (q : Int) := hq
      have qb : (q : Int) ≤ 9000 := by have := hq2.out; omega
      have mb : (m : Int) ≤ 9223372036854775807 := by omega
      clear hl hv hc' hR' hm LX
      obtain ⟨T, hT⟩ : ∃ T, T = S + 5 + q := ⟨_, rfl⟩
      have e1 : (S : Int) + 5 + (q : Int) = (T : Int) := by omega
      by_cases hb : 9000 < T
      · have hE : decide ((9000 : Int) < (T : Int)) = true := by simp; omega
        clear hT
        go_wp2_with fail
        go_ret
        exact ⟨false, rfl, rfl, fun h => by cases h⟩
      · have hE : decide ((9000 : Int) < (T : Int)) = false := by simp; omega
        have TT := Lib.hid (show T ≤ 9000 ∧ (ls.take (j + 1)).flatten.length + 5 * (j + 1) = T by have := TL.out; have := SM.out; have := hq2.out; omega)
        clear hT
        go_wp2_with fail
        go_roundw
        case rel => exact ⟨j + 1, T, by omega, by go_num, rfl, TT.out.1, TT.out.2, trivial⟩
        case measure => simp [intOf]; omega
    · have hD : decide ((j : Int) < (n : Int)) = false := by simp; omega
      have F := Lib.hid (show ls.flatten.length + 5 * n ≤ 9000 by have := SM.out; rw [List.take_of_length_le (by rw [NL.out]; omega)] at this; omega)
      go_wp2_with fail
      go_ret
      exact ⟨true, rfl, rfl, fun _ => F.out⟩
set_option maxRecDepth 100000 in
set_option maxHeartbeats 2000000 in
theorem wlist_any (w : World) (A : Option Addr) (n c : Nat) (l : List UInt8) (hn : l.length = n) (hR : RdB w A l) (hb : n ≤ 100000) (Av : Option Addr) (nv cv : Nat) (vs : List Value) (ls : List (List UInt8)) (hnv : vs.length = nv) (hcv : nv ≤ cv) (hRv : RdV w Av vs) (hall : All2 (SlB w) vs ls) (hfl : ls.flatten.length ≤ 1000000) (hnb : nv ≤ 65535) :
    Calls Try.prog 18 #[.slice A n c, .slice Av nv cv] w fun e w' => ∃ v, e = .returned v ∧ OwnB w' w.heap.size v (l ++ listL ls) ∧ Below w.heap.size w w' := by
  have TB := Lib.hid (show ByteT Try.prog from ⟨Try.underlying23, by kernel_rfl⟩)
  obtain ⟨i0, hi, hz0, hz1, hz2⟩ := info_parts (show (Try.prog.info? 23).map (fun i => (i.zero, i.size, i.bytes)) = some (some (.slice none 0 0), 1, 24) by kernel_rfl)
  have I0 := Lib.hid hi
  have I2 := Lib.hid hz1
  have HN := Lib.hid hn
  have HR := Lib.hid hR
  have HB := Lib.hid hb
  have HNV := Lib.hid hnv
  have HRV := Lib.hid hRv
  have HA := Lib.hid hall
  have HF := Lib.hid hfl
  have HNB := Lib.hid hnb
  have NL := Lib.hid (show ls.length = nv by rw [← hall.length, hnv])
  have nb : (nv : Int) ≤ 65535 := by omega
  have e0 : (if (65535 : Int) < (nv : Int) then (65535 : Int) else (nv : Int)) = (nv : Int) := by rw [if_neg (by omega)]
  obtain ⟨x, hx, e1⟩ := u64_len nv (by omega)
  have hcut := cut_to (P := Try.prog) 34 23 Try.underlying34 I0.out I2.out Av nv cv nv hcv
  have CV := Lib.hid hcv
  clear hi hz0 hz1 hz2 hn hR hb hnv hRv hall hfl hnb
  go_enter Try.func18, Try.ntmps18
  go_wp2_with fail
  refine (put_any w A n c l x 2 (by omega) HN.out HR.out (by have := HB.out; omega)).mono ?_
  rw [show beL (putN 2) x.toNat = beL 2 ls.length by rw [hx.out, NL.out]; rfl]
  rintro e w1 ⟨v, rfl, ho, hb1⟩
  have O := Lib.hid ho
  have S := Lib.hid hb1
  clear ho hb1 e1
  go_wp2_with fail
  clear hcut e0
  go_loopw [6, 8, 20] (fun u _ i wr => ∃ j : Nat, j ≤ nv ∧ i = .int .i64 (j : Int) ∧ OwnB wr w.heap.size u (l ++ beL 2 ls.length ++ ((ls.take j).map sizedL).flatten) ∧ Below w.heap.size w wr) (fun _ _ i _ => nv - (intOf i).toNat)
  case atStart => exact ⟨0, by omega, rfl, by simpa using O.out, S.out⟩
  case round =>
    obtain ⟨j, hj, rfl, ho, hbel⟩ := hrel
    have J := Lib.hid hj
    have O := Lib.hid ho
    have S := Lib.hid hbel
    clear ho hbel
    have LT := Lib.hid (show (l ++ beL 2 ls.length ++ ((ls.take j).map sizedL).flatten).length ≤ 2000000 by
      rw [List.length_append, List.length_append, beL_length, sized_flat]
      have := flat_take_le ls j
      have := HF.out
      have := HB.out
      have := HN.out
      have : (ls.take j).length ≤ 65535 := by rw [List.length_take, NL.out]; have := HNB.out; omega
      omega)
    obtain ⟨pre, hpre⟩ : ∃ pre, pre = l ++ beL 2 ls.length ++ ((ls.take j).map sizedL).flatten := ⟨_, rfl⟩
    rw [← hpre] at O LT
    have PE := Lib.hid hpre
    clear hpre
    by_cases hlt : j < nv
    · have hD : decide ((j : Int) < (nv : Int)) = true := by simp; omega
      obtain ⟨y, hl⟩ : ∃ l, ls[j]? = some l := ⟨_, List.getElem?_eq_getElem (by rw [NL.out]; exact hlt)⟩
      obtain ⟨v, hv, A', c', rfl, hc', hR'⟩ := HA.out.get j y hl
      obtain ⟨b, o, rfl, hcell⟩ := (HRV.out.keep S.out) j _ hv
      have FL := Lib.hid (show ((ls.take (j + 1)).map sizedL).flatten = ((ls.take j).map sizedL).flatten ++ sizedL y by rw [List.take_add_one, hl]; simp)
      have YB := Lib.hid (show y.length ≤ 1000000 by
        have h1 := flat_take_le ls (j + 1)
        rw [List.take_add_one, hl] at h1
        simp at h1
        have := HF.out
        simp at this
        omega)
      obtain ⟨m, hm⟩ : ∃ m, m = y.length := ⟨_, rfl⟩
      rw [← hm] at hcell
      have ME := Lib.hid hm.symm
      have RY := Lib.hid hR'
      obtain ⟨x2, hx2, e1⟩ := u64_len m (by have := YB.out; omega)
      obtain ⟨Ap, cp, rfl, hrp, hlp, _, _⟩ := O.out.read
      obtain ⟨q, hq⟩ : ∃ q, q = pre.length := ⟨_, rfl⟩
      rw [← hq] at hlp LT ⊢
      have QE := Lib.hid hq.symm
      have RP := Lib.hid hrp
      clear hl hv hc' hR' hm hrp hlp hq
      go_wp2_with fail
      refine (put_any wr Ap q cp pre x2 4 (by omega) QE.out RP.out (by have := LT.out; omega)).mono ?_
      rw [show beL (putN 4) x2.toNat = beL 4 y.length by rw [hx2.out, ME.out]; rfl]
      rintro e w2 ⟨v2, rfl, ho, hb⟩
      have O2 := Lib.hid (ho.mono S.out.size)
      have S := Lib.hid (S.out.trans (hb.mono S.out.size))
      clear ho hb e1 O
      go_wp2_with (refine app_list rfl TB.out (.tmp 28) (.tmp 29) rfl w.heap.size v2 _ y A' m c' rfl rfl ME.out O2.out (RY.out.keep S.out) S.out.size ?d2 ?_)
      case d2 => have := LT.out; have := QE.out; have := YB.out; have := ME.out; rw [List.length_append, beL_length]; omega
      intro v3 w3 ho hg _
      have S := Lib.hid (below_own S.out O2.out hg)
      have O3 := Lib.hid (show OwnB w3 w.heap.size v3 (l ++ beL 2 ls.length ++ ((ls.take (j + 1)).map sizedL).flatten) by
        rw [FL.out, ← List.append_assoc, ← PE.out, sizedL]; exact ho)
      clear ho hg O2 hcell
      go_wp2_with fail
      go_roundw
      case rel => exact ⟨j + 1, by omega, by go_num, O3.out, S.out⟩
      case measure => simp [intOf]; omega
    · have hD : decide ((j : Int) < (nv : Int)) = false := by simp; omega
      have PF := Lib.hid (show pre = l ++ listL ls by rw [PE.out, List.take_of_length_le (by rw [NL.out]; omega), listL, List.append_assoc])
      go_wp2_with fail
      go_ret
      exact ⟨_, rfl, by rw [← PF.out]; exact O.out, S.out⟩
set_option maxRecDepth 100000 in
set_option maxHeartbeats 2000000 in
theorem texts_any (w : World) (A : Option Addr) (n c : Nat) (vs : List Value) (ls : List (List UInt8)) (hn : vs.length = n) (hR : RdV w A vs) (hall : All2 (SlB w) vs ls) (hnb : n ≤ 1000000) :
    Calls Try.prog 20 #[.slice A n c] w fun e w' => ∃ v, e = .returned v ∧ OwnV w' w.heap.size 9 v (StrV ls) ∧ Below w.heap.size w w' := by
  have TS := Lib.hid (show SlT Try.prog 41 9 (.string (strB [])) 16 from ⟨Try.underlying41, by kernel_rfl, rfl⟩)
  have HN := Lib.hid hn
  have HR := Lib.hid hR
  have HA := Lib.hid hall
  have NL := Lib.hid (show ls.length = n by rw [← hall.length, hn])
  have nb : (n : Int) ≤ 1000000 := by omega
  clear hn hR hall hnb
  go_enter Try.func20, Try.ntmps20
  go_wp2_with fail
  go_loopw [3, 4] (fun u i wr => ∃ j : Nat, j ≤ n ∧ i = .int .i64 (j : Int) ∧ OwnV wr w.heap.size 9 u (StrV (ls.take j)) ∧ Below w.heap.size w wr) (fun _ i _ => n - (intOf i).toNat)
  case atStart => exact ⟨0, by omega, rfl, OwnV.nil _ _ _, Below.refl _ _⟩
  case round =>
    obtain ⟨j, hj, rfl, ho, hbel⟩ := hrel
    have J := Lib.hid hj
    have O := Lib.hid ho
    have S := Lib.hid hbel
    clear ho hbel
    by_cases hlt : j < n
    · have hD : decide ((j : Int) < (n : Int)) = true := by simp; omega
      obtain ⟨y, hl⟩ : ∃ l, ls[j]? = some l := ⟨_, List.getElem?_eq_getElem (by rw [NL.out]; exact hlt)⟩
      obtain ⟨v, hv, A', c', rfl, hc', hR'⟩ := HA.out.get j y hl
      obtain ⟨b, o, rfl, hcell⟩ := (HR.out.keep S.out) j _ hv
      obtain ⟨m, hm⟩ : ∃ m, m = y.length := ⟨_, rfl⟩
      rw [← hm] at hcell
      have ME := Lib.hid hm.symm
      have RY := Lib.hid hR'
      have SL := Lib.hid (show ls.take (j + 1) = ls.take j ++ [y] by rw [List.take_add_one, hl]; rfl)
      have TL := Lib.hid (show (StrV (ls.take j)).length ≤ 1000000 by rw [StrV_length, List.length_take]; omega)
      clear hl hv hc' hR' hm
      go_wp2_with (first
        | (refine wpList_val rfl (run_str 23 9 (.tmp 15) rfl Try.underlying23 Try.underlying5 Try.underlying9 (RY.out.keep S.out) m c' ME.out rfl) ?_)
        | (refine appV_list rfl TS.out (.tmp 11) (.tmp 17) rfl w.heap.size u3 (StrV (ls.take j)) [.string (strB y)] (some ⟨wr.heap.size, 0, none⟩) 1 1 rfl rfl rfl (O.out.alloc _) (RdV.one (row_cell (fr := (0, 0)) (ha_new _ _ _ rfl) 0 rfl)) (by intro u hu; simp at hu; subst hu; rfl) ?e1 ?e2 ?e3 ?_))
      case e1 => have := S.out.size; simp; omega
      case e2 => have := TL.out; omega
      case e3 => have := TL.out; omega
      intro v3 w3 ho hg _
      have S3 := Lib.hid (show Below w.heap.size w w3 from (S.out.alloc S.out.size (.cells #[.string (strB y)] 9)).trans (grown_below hg (by rw [ha_size]; have := S.out.size; omega) (fun g e => (O.out.lt g e).1)))
      have O3 := Lib.hid (show OwnV w3 w.heap.size 9 v3 (StrV (ls.take (j + 1))) by rw [SL.out, StrV_append]; exact ho)
      clear ho hg O hcell
      go_wp2_with fail
      go_roundw
      case rel => exact ⟨j + 1, by omega, by go_num, O3.out, S3.out⟩
      case measure => simp [intOf]; omega
    · have hD : decide ((j : Int) < (n : Int)) = false := by simp; omega
      have LE := Lib.hid (show ls.take j = ls by rw [List.take_of_length_le (by rw [NL.out]; omega)])
      go_wp2_with fail
      go_ret
      exact ⟨_, rfl, by have := O.out; rwa [LE.out] at this, S.out⟩
end Go.Proofs.Ytcmpiockcndejaa
