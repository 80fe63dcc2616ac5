/- chunk.Unpad. No condition but those each theorem states. -/
import Derived.Test.YtihllbhmnkckaaaDoorRdrNew
import Derived.Test.YtihllbhmnkckaaaDoorPad
import Derived.Test.YtihllbhmnkckaaaDoorTrim
namespace Go.Proofs.YtihllbhmnkckaaaDoor
set_option linter.unusedVariables false
set_option linter.unusedSimpArgs false
open Go.RowKit
attribute [local go_sem ↓] Go.wp_at_zero Go.wp_at_succ

/-- The length that stands ahead. -/
def lenL (l : List UInt8) : Nat := beVal (takeS ⟨l, 0⟩ 4).2.1
/-- The text of padded bytes. -/
def unpadS (l : List UInt8) : Option (List UInt8) :=
  if 4194304 < lenL l then none else if l.length ≠ padN (lenL l) then none else
  if ∀ j, j < l.length - 4 - lenL l → ((l.drop 4).drop (lenL l)).getD j 0 = 0 then some ((l.drop 4).take (lenL l)) else none
theorem lenL_nat (l : List UInt8) : (numS ⟨l, 0⟩ 4).2 = lenL l := rfl
theorem take_nat (l : List UInt8) (n : Nat) (hn : n ≤ l.length) : takeS ⟨l, 0⟩ (n : Int) = (⟨l.drop n, 0⟩, l.take n, decide (1 ≤ n)) := by
  unfold takeS
  rcases Nat.eq_zero_or_pos n with h | h
  · subst h
    rw [if_pos (by left; omega)]
    simp
  · rw [if_neg (by simp; omega), if_neg (by simp; omega)]
    simp; omega
theorem numS_nat (l : List UInt8) (h : 4 ≤ l.length) : (numS ⟨l, 0⟩ 4).1 = ⟨l.drop 4, 0⟩ := by
  show (takeS ⟨l, 0⟩ (min 4 8)).1 = _
  rw [show (min 4 8 : Int) = ((4 : Nat) : Int) from rfl, take_nat l 4 h]
def UnpadP (w : World) (r : Option (List UInt8)) (e : Ending) (w' : World) : Prop :=
  match r with
  | none => e = .returned (.tuple #[.slice none 0 0, .int .i64 11]) ∧ Below w.heap.size w w'
  | some t => (∃ v, e = .returned (.tuple #[v, .int .i64 0]) ∧ OwnB w' w.heap.size v t) ∧ Below w.heap.size w w'
theorem UnpadP.no {w : World} {e : Ending} {w' : World} (h : UnpadP w none e w') : e = .returned (.tuple #[.slice none 0 0, .int .i64 11]) ∧ Below w.heap.size w w' := h
theorem UnpadP.yes {w : World} {t : List UInt8} {e : Ending} {w' : World} (h : UnpadP w (some t) e w') : (∃ v, e = .returned (.tuple #[v, .int .i64 0]) ∧ OwnB w' w.heap.size v t) ∧ Below w.heap.size w w' := h
set_option maxRecDepth 100000 in
set_option maxHeartbeats 4000000 in
theorem unpad_any (w : World) (A : Option Addr) (n c : Nat) (l : List UInt8) (hn : l.length = n) (hR : RdB w A l) (hb : n ≤ 100000) :
    Calls Tryd.prog 7 #[.slice A n c] w (UnpadP w (unpadS l)) := by
  have HN := Lib.hid hn
  have HR := Lib.hid hR
  have HB := Lib.hid hb
  obtain ⟨m, hm⟩ : ∃ m, m = lenL l := ⟨_, rfl⟩
  have M := Lib.hid hm
  obtain ⟨s1, hs1⟩ : ∃ s1, s1 = (numS ⟨l, 0⟩ 4).1 := ⟨_, rfl⟩
  have S1 := Lib.hid hs1
  have nb : (n : Int) ≤ 100000 := by omega
  obtain ⟨r, hr⟩ : ∃ r, r = unpadS l := ⟨_, rfl⟩
  have R := Lib.hid hr
  rw [← hr]
  clear hn hR hb hm hs1 hr
  go_enter Tryd.func7, Tryd.ntmps7
  go_wp2_with fail
  refine (rnew_any w A n c l HN.out HR.out (by have := HB.out; omega)).mono ?_
  rintro e w1 ⟨g, D, rfl, hg, hD, hs, hbl⟩
  have G := Lib.hid hg
  have D1 := Lib.hid hD
  have S := Lib.hid hs
  have B := Lib.hid hbl
  clear hg hD hs hbl
  go_wp2_with fail
  refine (num_any g D ⟨l, 0⟩ 4 (by omega) w1 S.out).mono ?_
  rw [lenL_nat, ← M.out, ← S1.out]
  rintro e w2 ⟨rfl, hs, hg⟩
  have S := Lib.hid hs
  have GL := Lib.hid hs.lt
  have B := Lib.hid (B.out.trans (grown_below hg B.out.size (by rintro x ⟨⟩; exact G.out)))
  clear hs hg
  by_cases hbig : 4194304 < m
  · have hT : decide ((4194304 : Int) < (m : Int)) = true := by simp; omega
    have hT2 : decide (4194304 < m) = true := by simp; omega
    have N := Lib.hid (show r = none by rw [R.out, unpadS, ← M.out, if_pos hbig])
    clear hbig
    go_wp2_with fail
    go_ret2
    rw [N.out]
    exact ⟨rfl, B.out⟩
  · have hT : decide ((4194304 : Int) < (m : Int)) = false := by simp; omega
    have hT2 : decide (4194304 < m) = false := by simp; omega
    have mb : (m : Int) ≤ 4194304 := by omega
    have MB := Lib.hid (show m ≤ 4194304 by omega)
    clear hbig
    obtain ⟨p, hp⟩ : ∃ p, p = padN m := ⟨_, rfl⟩
    have P := Lib.hid hp
    have pb : (p : Int) ≤ 4194816 := by have := padN_le m; omega
    clear hp
    go_wp2_with fail
    refine (padded_any w2 (m : Int)).mono ?_
    rw [padI_nat, ← P.out]
    rintro e wd ⟨rfl, hw⟩
    rw [hw]
    clear hw wd
    by_cases hl : n = p
    · have hE : (n == p) = true := by simp [hl]
      have hE2 : ((n : Int) == (p : Int)) = true := by simp [hl]
      have L := Lib.hid hl
      have PG := Lib.hid (show m + 4 ≤ n by rw [hl, P.out]; exact padN_ge m MB.out)
      have E1 := Lib.hid (show s1 = ⟨l.drop 4, 0⟩ by rw [S1.out]; exact numS_nat l (by rw [HN.out]; have := PG.out; omega))
      have T1 := Lib.hid (show takeS s1 (m : Int) = (⟨(l.drop 4).drop m, 0⟩, (l.drop 4).take m, decide (1 ≤ m)) by rw [E1.out]; exact take_nat _ _ (by rw [List.length_drop, HN.out]; have := PG.out; omega))
      obtain ⟨t, ht⟩ : ∃ t, t = (l.drop 4).take m := ⟨_, rfl⟩
      obtain ⟨z, hz⟩ : ∃ z, z = (l.drop 4).drop m := ⟨_, rfl⟩
      obtain ⟨k, hk⟩ : ∃ k, k = z.length := ⟨_, rfl⟩
      have KN := Lib.hid (show k + m + 4 = n by rw [hk, hz, List.length_drop, List.length_drop, HN.out]; have := PG.out; omega)
      have RE := Lib.hid (show r = if ∀ j, j < k → z.getD j 0 = 0 then some t else none by
        rw [R.out, unpadS, ← M.out, if_neg (by have := MB.out; omega), if_neg (by rw [HN.out, L.out, P.out]; simp), ht, hz, show l.length - 4 - m = k by rw [HN.out]; have := KN.out; omega])
      have K := Lib.hid hk.symm
      rw [← ht, ← hz] at T1
      have T1 := Lib.hid T1.out
      have T2 := Lib.hid (show takeS ⟨z, 0⟩ (k : Int) = (⟨[], 0⟩, z, decide (1 ≤ k)) by rw [take_nat z k (by rw [hk]; exact Nat.le_refl _), hk, List.drop_length, List.take_length])
      have kb : (k : Int) ≤ 100000 := by have := KN.out; have := HB.out; omega
      clear hl ht hz hk
      go_wp2_with fail
      refine (raw_any g D s1 (m : Int) w2 S.out).mono ?_
      rw [T1.out]
      rintro e w3 ⟨⟨v, rfl, ho⟩, hs, hg⟩
      have O := Lib.hid ho
      have S := Lib.hid hs
      have B3 := Lib.hid (B.out.trans (grown_below hg B.out.size (by rintro x ⟨⟩; exact G.out)))
      have W2 := Lib.hid B.out.size
      have S1g := Lib.hid (show g < w2.heap.size from GL.out)
      clear ho hs hg
      go_wp2_with fail
      refine (wrong_any g D _ w3 S.out).mono ?_
      rintro e wd ⟨rfl, hw⟩
      rw [hw]
      clear hw wd
      go_wp2_with fail
      refine (left_any g D _ w3 S.out).mono ?_
      rintro e wd ⟨rfl, hw⟩
      rw [hw]
      clear hw wd
      rw [show (⟨z, 0⟩ : RSt).l.length = k from K.out]
      go_wp2_with fail
      refine (raw_any g D _ (k : Int) w3 S.out).mono ?_
      rw [T2.out]
      rintro e w4 ⟨⟨v2, rfl, ho⟩, hs, hg⟩
      obtain ⟨A2, c2, rfl, hr2, hc2, _, _⟩ := ho.read
      rw [K.out]
      have R2 := Lib.hid hr2
      have C2 := Lib.hid (show k ≤ c2 by rw [← K.out]; exact hc2)
      have O := Lib.hid (show OwnB w4 w2.heap.size v t from O.out.grown hg (by
        rcases hv : v.ownBlock with _ | b
        · exact .inl rfl
        · refine .inr ?_
          have h1 := (O.out.lt b hv).1
          have h2 := S1g.out
          intro e
          injection e with e
          omega))
      have B4 := Lib.hid (B3.out.trans (grown_below hg B3.out.size (by rintro x ⟨⟩; exact G.out)))
      clear ho hs hg hr2 hc2
      go_wp2_with fail
      refine (trim_any w4 A2 k c2 z K.out C2.out R2.out (by have := KN.out; have := HB.out; omega)).mono ?_
      rintro e w5 ⟨A3, q, c3, rfl, hq, hb5⟩
      have Q := Lib.hid hq
      have O := Lib.hid ((O.out.below hb5).mono W2.out)
      have B5 := Lib.hid (B4.out.trans (hb5.mono B4.out.size))
      clear hq hb5
      by_cases hall : ∀ j, j < k → z.getD j 0 = 0
      · have N := Lib.hid (show r = some t by rw [RE.out, if_pos hall])
        obtain rfl : q = 0 := Q.out.mpr hall
        clear hall
        go_wp2_with fail
        go_ret2
        rw [N.out]
        exact ⟨⟨_, rfl, O.out⟩, B5.out⟩
      · have N := Lib.hid (show r = none by rw [RE.out, if_neg hall])
        have hq0 : q ≠ 0 := fun h => hall (Q.out.mp h)
        have hE3 : ((q : Int) == 0) = false := by simp; omega
        clear hall hq0
        go_wp2_with fail
        go_ret2
        rw [N.out]
        exact ⟨rfl, B5.out⟩
    · have hE : (n == p) = false := by simp [hl]
      have hE2 : ((n : Int) == (p : Int)) = false := by simp; omega
      have N := Lib.hid (show r = none by rw [R.out, unpadS, ← M.out, if_neg (by have := MB.out; omega), if_pos (by rw [HN.out, ← P.out]; exact hl)])
      clear hl
      go_wp2_with fail
      go_ret2
      rw [N.out]
      exact ⟨rfl, B.out⟩
end Go.Proofs.YtihllbhmnkckaaaDoor
