/- The document's numbers: added. -/
import Derived.Test.YtdheopihcohciaaRefCar
namespace Go.Proofs.Ytdheopihcohciaa
set_option linter.unusedVariables false
set_option linter.unusedSimpArgs false
open Go.RowKit
attribute [local go_sem ↓] Go.wp_at_zero Go.wp_at_succ

def tabN (f : Nat → Nat) (m : Nat) : List Nat := (List.range m).map f
theorem tabN_length (f : Nat → Nat) (m : Nat) : (tabN f m).length = m := by simp [tabN]
theorem tabN_succ (f : Nat → Nat) (m : Nat) : tabN f (m + 1) = tabN f m ++ [f m] := by simp [tabN, List.range_succ]
theorem valB_tab_add (f g : Nat → Nat) : ∀ m, valB (tabN (fun j => f j + g j) m) = valB (tabN f m) + valB (tabN g m)
  | 0 => rfl
  | m + 1 => by
    rw [tabN_succ, tabN_succ, tabN_succ, valB_append, valB_append, valB_append, valB_tab_add f g m, tabN_length, tabN_length, tabN_length]
    simp only [valB]
    grind
theorem valB_tab (a : List Nat) : ∀ m, a.length ≤ m → valB (tabN (fun j => a.getD j 0) m) = valB a := by
  have key : ∀ m, valB (tabN (fun j => a.getD j 0) m) + 256 ^ m * valB (a.drop m) = valB a := by
    intro m
    induction m with
    | zero => simp [tabN, valB]
    | succ m ih =>
      rw [tabN_succ, valB_append, tabN_length, ← ih, valB_drop a m]
      simp only [valB, Nat.pow_succ]
      grind
  intro m h
  have := key m
  rw [List.drop_of_length_le h] at this
  simpa [valB] using this
theorem tabN_le {f : Nat → Nat} {B : Nat} (h : ∀ j, f j ≤ B) (m : Nat) : ∀ d ∈ tabN f m, d ≤ B := by
  intro d hd
  simp only [tabN, List.mem_map] at hd
  obtain ⟨j, _, rfl⟩ := hd
  exact h j
set_option maxRecDepth 100000 in
set_option maxHeartbeats 2000000 in
theorem nsum_any (a b : List Nat) (ha : ∀ d ∈ a, d ≤ 255) (hb : ∀ d ∈ b, d ≤ 255) (A : Option Addr) (n c : Nat) (hn : a.length = n) (A' : Option Addr) (n' c' : Nat) (hn' : b.length = n') (hm : n ≤ 1000) (hm' : n' ≤ 1000) (w : World) (hR : RdV w A (NumV a)) (hR' : RdV w A' (NumV b)) :
    Calls Try.prog 39 #[.slice A n c, .slice A' n' c'] w fun e w' => ∃ v o, e = .returned v ∧ OwnV w' w.heap.size 3 v (NumV o) ∧ Digs o (valB a + valB b) (max n n') ∧ Below w.heap.size w w' := by
  have HA := Lib.hid ha
  have HB := Lib.hid hb
  have HN := Lib.hid hn
  have HN' := Lib.hid hn'
  have HR := Lib.hid hR
  have HR' := Lib.hid hR'
  have HM := Lib.hid hm
  have HM' := Lib.hid hm'
  have NT := Lib.hid numT
  obtain ⟨f, hf⟩ : ∃ f : Nat → Nat, f = fun j => a.getD j 0 + b.getD j 0 := ⟨_, rfl⟩
  have FE := Lib.hid hf
  have FB := Lib.hid (show ∀ j, f j ≤ 510 from fun j => by rw [hf]; have := getD_le ha j; have := getD_le hb j; show a.getD j 0 + b.getD j 0 ≤ 510; omega)
  obtain ⟨m, hmx⟩ : ∃ m, m = max n n' := ⟨_, rfl⟩
  rw [← hmx]
  have MX := Lib.hid hmx
  have M1 := Lib.hid (show m ≤ 1000 by omega)
  clear ha hb hn hn' hR hR' hm hm' hf hmx
  go_enter Try.func39, Try.ntmps39
  go_wp2_with fail
  go_loopw [5, 6] (fun u i wr => ∃ k : Nat, k ≤ m ∧ OwnV wr w.heap.size 3 u (NumV (tabN f k)) ∧ i = .int .i64 (k : Int) ∧ Below w.heap.size w wr) (fun _ i _ => 2000 - (intOf i).toNat)
  case atStart => exact ⟨0, by omega, OwnV.nil _ _ _, rfl, Below.refl _ _⟩
  case round =>
    obtain ⟨k, hk, ho, rfl, hb⟩ := hrel
    have KM := Lib.hid hk
    have O1 := Lib.hid ho
    have B1 := Lib.hid hb
    clear ho hb hk
    obtain ⟨x, hx⟩ : ∃ x, x = a.getD k 0 := ⟨_, rfl⟩
    obtain ⟨y, hy⟩ : ∃ x, x = b.getD k 0 := ⟨_, rfl⟩
    have X := Lib.hid hx
    have Y := Lib.hid hy
    have FK := Lib.hid (show f k = x + y by rw [FE.out, hx, hy])
    have xb : (x : Int) ≤ 255 := by have := getD_le HA.out k; omega
    have yb : (y : Int) ≤ 255 := by have := getD_le HB.out k; omega
    have kb : (k : Int) ≤ 1000 := by have := KM.out; have := M1.out; omega
    clear hx hy
    by_cases h1 : k < n
    · have hD : decide ((k : Int) < (n : Int)) = true := by simp; omega
      have KL := Lib.hid (show k < m by have := MX.out; omega)
      go_wp2_with fail
      refine (digit_any a A n c HN.out k _ (HR.out.keep B1.out)).mono ?_
      rintro e w1 ⟨rfl, rfl⟩
      rw [← X.out]
      go_wp2_with fail
      refine (digit_any b A' n' c' HN'.out k _ (HR'.out.keep B1.out)).mono ?_
      rintro e w1 ⟨rfl, rfl⟩
      rw [← Y.out]
      obtain ⟨q, hq⟩ : ∃ q, q = x + y := ⟨_, rfl⟩
      have e1 : (x : Int) + (y : Int) = (q : Int) := by omega
      have Q := Lib.hid (show q = f k by rw [hq, FK.out])
      clear hq
      go_wp2_with (refine appV_list rfl NT.out (.tmp 19) (.tmp 27) rfl w.heap.size _ (NumV (tabN f k)) [.int .i64 (q : Int)] (some ⟨_, 0, none⟩) 1 1 rfl rfl rfl (O1.out.alloc _) (RdV.one (row_cell (fr := (0, 0)) (ha_new _ _ _ rfl) 0 rfl)) (by intro u hu; simp at hu; subst hu; rfl) ?c1 ?c2 ?c3 ?_)
      case c1 => have := B1.out.size; simp; omega
      case c2 => rw [NumV_length, tabN_length]; omega
      case c3 => rw [NumV_length, tabN_length]; omega
      intro v1 w2 ho hg _
      have B2 := Lib.hid (B1.out.alloc B1.out.size (.cells #[.int .i64 (q : Int)] 3))
      have B3 := Lib.hid (B2.out.trans (grown_below hg B2.out.size (fun g e => (O1.out.lt g e).1)))
      have O2 := Lib.hid (show OwnV w2 w.heap.size 3 v1 (NumV (tabN f (k + 1))) by rw [tabN_succ, NumV_append, ← Q.out]; exact ho)
      clear ho hg
      go_wp2_with fail
      go_roundw
      case rel => exact ⟨k + 1, by have := KL.out; omega, O2.out, by go_num, B3.out⟩
      case measure => simp [intOf] <;> omega
    · have hD : decide ((k : Int) < (n : Int)) = false := by simp; omega
      by_cases h2 : k < n'
      · have hE : decide ((k : Int) < (n' : Int)) = true := by simp; omega
        have KL := Lib.hid (show k < m by have := MX.out; omega)
        go_wp2_with fail
        refine (digit_any a A n c HN.out k _ (HR.out.keep B1.out)).mono ?_
        rintro e w1 ⟨rfl, rfl⟩
        rw [← X.out]
        go_wp2_with fail
        refine (digit_any b A' n' c' HN'.out k _ (HR'.out.keep B1.out)).mono ?_
        rintro e w1 ⟨rfl, rfl⟩
        rw [← Y.out]
        obtain ⟨q, hq⟩ : ∃ q, q = x + y := ⟨_, rfl⟩
        have e1 : (x : Int) + (y : Int) = (q : Int) := by omega
        have Q := Lib.hid (show q = f k by rw [hq, FK.out])
        clear hq
        go_wp2_with (refine appV_list rfl NT.out (.tmp 19) (.tmp 27) rfl w.heap.size _ (NumV (tabN f k)) [.int .i64 (q : Int)] (some ⟨_, 0, none⟩) 1 1 rfl rfl rfl (O1.out.alloc _) (RdV.one (row_cell (fr := (0, 0)) (ha_new _ _ _ rfl) 0 rfl)) (by intro u hu; simp at hu; subst hu; rfl) ?c1 ?c2 ?c3 ?_)
        case c1 => have := B1.out.size; simp; omega
        case c2 => rw [NumV_length, tabN_length]; omega
        case c3 => rw [NumV_length, tabN_length]; omega
        intro v1 w2 ho hg _
        have B2 := Lib.hid (B1.out.alloc B1.out.size (.cells #[.int .i64 (q : Int)] 3))
        have B3 := Lib.hid (B2.out.trans (grown_below hg B2.out.size (fun g e => (O1.out.lt g e).1)))
        have O2 := Lib.hid (show OwnV w2 w.heap.size 3 v1 (NumV (tabN f (k + 1))) by rw [tabN_succ, NumV_append, ← Q.out]; exact ho)
        clear ho hg
        go_wp2_with fail
        go_roundw
        case rel => exact ⟨k + 1, by have := KL.out; omega, O2.out, by go_num, B3.out⟩
        case measure => simp [intOf] <;> omega
      · have hE : decide ((k : Int) < (n' : Int)) = false := by simp; omega
        have KE := Lib.hid (show k = m by have := MX.out; have := KM.out; omega)
        go_wp2_with fail
        obtain ⟨A5, c5, rfl, hr5, hl5, _, _⟩ := O1.out.read
        rw [NumV_length, tabN_length]
        refine (carried_any (tabN f k) (tabN_le (fun j => by have := FB.out j; omega) k) A5 k c5 (tabN_length _ _) (by have := KM.out; have := M1.out; omega) _ hr5).mono ?_
        rintro e w2 ⟨v, o, rfl, ho, hd, hb⟩
        have VE := Lib.hid (show valB (tabN f k) = valB a + valB b by
          rw [KE.out, FE.out, valB_tab_add, valB_tab a m (by have := MX.out; have := HN.out; omega), valB_tab b m (by have := MX.out; have := HN'.out; omega)])
        have O2 := Lib.hid (ho.mono B1.out.size)
        have D2 := Lib.hid hd
        have B2 := Lib.hid (B1.out.trans (hb.mono B1.out.size))
        clear ho hd hb
        go_wp2_with fail
        go_ret
        exact ⟨_, o, rfl, O2.out, by have := D2.out; rw [VE.out, KE.out] at this; exact this, B2.out⟩
end Go.Proofs.Ytdheopihcohciaa
