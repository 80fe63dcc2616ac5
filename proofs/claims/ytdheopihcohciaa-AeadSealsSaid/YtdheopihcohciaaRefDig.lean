/- The document's numbers: the prime, comparing, subtracting. No condition but those each theorem states. -/
import Derived.Test.YtdheopihcohciaaRefTim
namespace Go.Proofs.Ytdheopihcohciaa
set_option linter.unusedVariables false
set_option linter.unusedSimpArgs false
open Go.RowKit
attribute [local go_sem ↓] Go.wp_at_zero Go.wp_at_succ

/-! ### plain -/
theorem valB_lt (l : List Nat) (h : ∀ d ∈ l, d ≤ 255) : valB l < 256 ^ l.length := by
  induction l with
  | nil => simp [valB]
  | cons d l ih =>
    have h1 := ih (fun x hx => h x (by simp [hx]))
    have h2 := h d (by simp)
    rw [valB, List.length_cons, Nat.pow_succ]
    omega
theorem valB_split (l : List Nat) (i : Nat) : valB l = valB (tabN (fun j => l.getD j 0) i) + 256 ^ i * valB (l.drop i) := by
  induction i with
  | zero => simp [tabN, valB]
  | succ m ih =>
    rw [ih, tabN_succ, valB_append, tabN_length, valB_drop l m]
    simp only [valB, Nat.pow_succ]
    grind
theorem tab_lt (l : List Nat) (h : ∀ d ∈ l, d ≤ 255) (i : Nat) : valB (tabN (fun j => l.getD j 0) i) < 256 ^ i := by
  have := valB_lt (tabN (fun j => l.getD j 0) i) (tabN_le (fun j => getD_le h j) i)
  rwa [tabN_length] at this
/-- Numbers whose higher digits are alike. -/
theorem below_at (a b : List Nat) (ha : ∀ d ∈ a, d ≤ 255) (hb : ∀ d ∈ b, d ≤ 255) (i : Nat) (hhi : valB (a.drop (i + 1)) = valB (b.drop (i + 1))) (hne : a.getD i 0 ≠ b.getD i 0) : (valB a < valB b) ↔ (a.getD i 0 < b.getD i 0) := by
  rw [valB_split a i, valB_split b i, valB_drop a i, valB_drop b i, hhi]
  have h1 := tab_lt a ha i
  have h2 := tab_lt b hb i
  generalize valB (tabN (fun j => a.getD j 0) i) = x at *
  generalize valB (tabN (fun j => b.getD j 0) i) = y at *
  generalize valB (b.drop (i + 1)) = z at *
  generalize a.getD i 0 = p at *
  generalize b.getD i 0 = q at *
  generalize 256 ^ i = m at *
  rw [Nat.mul_add, Nat.mul_add]
  generalize m * (256 * z) = t
  constructor
  · intro h
    rcases Nat.lt_or_ge p q with h3 | h3
    · exact h3
    · exfalso
      have h4 : q + 1 ≤ p := by omega
      have h5 := Nat.mul_le_mul (Nat.le_refl m) h4
      rw [Nat.mul_add, Nat.mul_one] at h5
      omega
  · intro h
    have h4 : p + 1 ≤ q := h
    have h5 := Nat.mul_le_mul (Nat.le_refl m) h4
    rw [Nat.mul_add, Nat.mul_one] at h5
    omega
def primeL : List Nat := [251, 255, 255, 255, 255, 255, 255, 255, 255, 255, 255, 255, 255, 255, 255, 255, 3]
theorem primeL_val : valB primeL = PN := by decide +kernel
theorem primeL_dig : ∀ d ∈ primeL, d ≤ 255 := by decide
/-- While a difference is taken. -/
structure LesS (a b o : List Nat) (c : Nat) : Prop where
  val : valB (tabN (fun j => a.getD j 0) o.length) + 256 ^ o.length * c = valB o + valB (tabN (fun j => b.getD j 0) o.length)
  dig : ∀ d ∈ o, d ≤ 255
  cb : c ≤ 1
theorem LesS.start (a b : List Nat) : LesS a b [] 0 := ⟨by simp [tabN, valB], by simp, by omega⟩
theorem LesS.step {a b o : List Nat} {c : Nat} (h : LesS a b o c) (ha : ∀ d ∈ a, d ≤ 255) (hb : ∀ d ∈ b, d ≤ 255) (d c' : Nat) (hd : (d : Int) = (a.getD o.length 0 : Int) - (b.getD o.length 0 : Int) - (c : Int) + 256 * (c' : Int)) (hd2 : d ≤ 255) (hc : c' ≤ 1) : LesS a b (o ++ [d]) c' where
  val := by
    rw [List.length_append, List.length_singleton, tabN_succ, tabN_succ, valB_append, valB_append, valB_append, tabN_length, tabN_length, Nat.pow_succ]
    have h1 := h.val
    simp only [valB]
    generalize valB (tabN (fun j => a.getD j 0) o.length) = x at *
    generalize valB (tabN (fun j => b.getD j 0) o.length) = y at *
    generalize valB o = z at *
    generalize a.getD o.length 0 = p at *
    generalize b.getD o.length 0 = q at *
    generalize 256 ^ o.length = m at *
    have h2 : p + 256 * c' = d + q + c := by omega
    have h3 : m * (p + 256 * c') = m * (d + q + c) := by rw [h2]
    grind
  dig := by
    intro x hx
    rcases List.mem_append.1 hx with hx | hx
    · exact h.dig x hx
    · simp at hx; omega
  cb := hc
theorem LesS.done {a b o : List Nat} {c : Nat} (h : LesS a b o c) (hl : o.length = a.length) (hle : valB b ≤ valB a) (ha : ∀ d ∈ a, d ≤ 255) : valB o = valB a - valB b := by
  have h1 := h.val
  have h2 := valB_split b o.length
  have h3 := valB_split a o.length
  have h4 : a.drop o.length = [] := List.drop_of_length_le (by omega)
  rw [h4] at h3
  have h5 := valB_lt o h.dig
  have h6 := valB_lt a ha
  rw [← hl] at h6
  have h7 : (valB [] : Nat) = 0 := rfl
  rw [h7, Nat.mul_zero, Nat.add_zero] at h3
  rw [← h3] at h1
  have hcb := h.cb
  generalize valB (tabN (fun j => b.getD j 0) o.length) = y at *
  have h8 : valB (b.drop o.length) = 0 := by
    rcases Nat.eq_zero_or_pos (valB (b.drop o.length)) with h9 | h9
    · exact h9
    · exfalso
      have := Nat.le_mul_of_pos_right (256 ^ o.length) h9
      omega
  rw [h8, Nat.mul_zero, Nat.add_zero] at h2
  obtain rfl | rfl : c = 0 ∨ c = 1 := by omega
  · omega
  · omega

/-! ### walked -/
theorem own_built (W : World) (e : TypeId) (x : Value) {base : Nat} (hb : base ≤ W.heap.size) : OwnV (W.alloc (.cells #[x] e)) base e (.slice (some ⟨W.heap.size, 0, none⟩) 1 1) [x] :=
  ⟨rfl, .inr ⟨W.heap.size, 1, #[x], rfl, hb, ha_new _ _ _ rfl, Nat.le_refl _, by decide, rfl, rfl⟩⟩
set_option maxRecDepth 100000 in
set_option maxHeartbeats 1000000 in
theorem prime_any (w : World) : Calls Try.prog 47 #[] w fun e w' => ∃ v, e = .returned v ∧ OwnV w' w.heap.size 3 v (NumV primeL) ∧ Below w.heap.size w w' := by
  have NT := Lib.hid numT
  go_enter Try.func47, Try.ntmps47
  go_wp2_with fail
  obtain ⟨w1, hw1⟩ : ∃ w1, w1 = w.alloc (.cells #[.int .i64 251] 3) := ⟨_, rfl⟩
  have O0 := Lib.hid (show OwnV w1 w.heap.size 3 (.slice (some ⟨w.heap.size, 0, none⟩) 1 1) (NumV [251]) by rw [hw1]; exact own_built w 3 _ (Nat.le_refl _))
  have S0 := Lib.hid (show Below w.heap.size w w1 by rw [hw1]; exact (Below.refl _ _).alloc (Nat.le_refl _) _)
  rw [← hw1]
  clear hw1
  go_loopw [1] (fun u wr => ∃ k : Nat, k ≤ 15 ∧ OwnV wr w.heap.size 3 u (NumV (251 :: List.replicate k 255)) ∧ Below w.heap.size w wr) (fun u _ => 16 - lenOf u)
  case atStart => exact ⟨0, by omega, O0.out, S0.out⟩
  case round =>
    obtain ⟨k, hk, ho, hb⟩ := hrel
    have K := Lib.hid hk
    have O := Lib.hid ho
    have S := Lib.hid hb
    obtain ⟨A2, c2, hu, _⟩ := ho.read
    obtain ⟨m, hm⟩ : ∃ m, m = k + 1 := ⟨_, rfl⟩
    have hl : (NumV (251 :: List.replicate k 255)).length = m := by rw [NumV_length, hm]; simp
    rw [hl] at hu
    have HL := Lib.hid hl
    have ME := Lib.hid hm
    have mb : (m : Int) ≤ 16 := by omega
    rw [hu] at O ⊢
    clear hk ho hb hu hl hm
    by_cases hlt : m < 16
    · have hD : decide ((m : Int) < 16) = true := by simp; omega
      have M16 := Lib.hid hlt
      clear hlt
      go_wp2_with (refine appV_list rfl NT.out (.tmp 6) (.tmp 7) rfl w.heap.size _ (NumV (251 :: List.replicate k 255)) [.int .i64 255] (some ⟨wr.heap.size, 0, none⟩) 1 1 rfl rfl rfl (O.out.alloc _) (RdV.one (row_cell (fr := (0, 0)) (ha_new wr _ _ rfl) 0 rfl)) (by intro u hu; simp at hu; subst hu; rfl) ?c1 ?c2 ?c3 ?_)
      case c1 => have := S.out.size; rw [ha_size]; omega
      case c2 => have := HL.out; have := M16.out; omega
      case c3 => have := HL.out; have := M16.out; omega
      intro v2 w2 ho hg _
      have B2 : Below w.heap.size w (wr.alloc (.cells #[.int .i64 255] 3)) := S.out.alloc S.out.size _
      have S2 := Lib.hid (B2.trans (grown_below hg (by rw [ha_size]; have := S.out.size; omega) (fun q e => (O.out.lt q e).1)))
      have O2 := Lib.hid (show OwnV w2 w.heap.size 3 v2 (NumV (251 :: List.replicate (k + 1) 255)) by rw [List.replicate_succ', ← List.cons_append, NumV_append]; exact ho)
      have VL := Lib.hid (show lenOf v2 = m + 1 by
        obtain ⟨A3, c3, e3, _⟩ := O2.out.read
        rw [e3]
        show (NumV (251 :: List.replicate (k + 1) 255)).length = m + 1
        rw [NumV_length, ME.out]; simp)
      clear ho hg B2 hD
      go_wp2_with fail
      go_roundw
      case rel => exact ⟨k + 1, by have := M16.out; have := ME.out; omega, O2.out, S2.out⟩
      case measure => rw [VL.out]; show 16 - (m + 1) < 16 - m; have := M16.out; omega
    · have hD : decide ((m : Int) < 16) = false := by simp; omega
      have KE := Lib.hid (show k = 15 by have := ME.out; have := K.out; omega)
      clear hlt
      go_wp2_with (refine appV_list rfl NT.out (.tmp 9) (.tmp 10) rfl w.heap.size _ (NumV (251 :: List.replicate k 255)) [.int .i64 3] (some ⟨wr.heap.size, 0, none⟩) 1 1 rfl rfl rfl (O.out.alloc _) (RdV.one (row_cell (fr := (0, 0)) (ha_new wr _ _ rfl) 0 rfl)) (by intro u hu; simp at hu; subst hu; rfl) ?d1 ?d2 ?d3 ?_)
      case d1 => have := S.out.size; rw [ha_size]; omega
      case d2 => have := HL.out; have := ME.out; have := K.out; omega
      case d3 => have := HL.out; have := ME.out; have := K.out; omega
      intro v2 w2 ho hg _
      have B2 : Below w.heap.size w (wr.alloc (.cells #[.int .i64 3] 3)) := S.out.alloc S.out.size _
      have S2 := Lib.hid (B2.trans (grown_below hg (by rw [ha_size]; have := S.out.size; omega) (fun q e => (O.out.lt q e).1)))
      have O2 := Lib.hid (show OwnV w2 w.heap.size 3 v2 (NumV primeL) by rw [KE.out] at ho; exact ho)
      clear ho hg B2 hD
      go_wp2_with fail
      go_ret
      exact ⟨_, rfl, O2.out, S2.out⟩
set_option maxRecDepth 100000 in
set_option maxHeartbeats 1000000 in
theorem below_any (a b : List Nat) (ha : ∀ d ∈ a, d ≤ 255) (hb : ∀ d ∈ b, d ≤ 255) (A : Option Addr) (n c : Nat) (hn : a.length = n) (A' : Option Addr) (n' c' : Nat) (hn' : b.length = n') (hm : n ≤ 1000) (hm' : n' ≤ 1000) (w : World) (hR : RdV w A (NumV a)) (hR' : RdV w A' (NumV b)) :
    Calls Try.prog 46 #[.slice A n c, .slice A' n' c'] w fun e w' => e = .returned (.bool (decide (valB a < valB b))) ∧ w' = w := by
  have HA := Lib.hid ha
  have HB := Lib.hid hb
  have HN := Lib.hid hn
  have HN' := Lib.hid hn'
  have HR := Lib.hid hR
  have HR' := Lib.hid hR'
  obtain ⟨m, hmx⟩ : ∃ m, m = max n n' := ⟨_, rfl⟩
  have e1 : (if n < n' then (n' : Int) else (n : Int)) = (m : Int) := by split <;> omega
  have M1 := Lib.hid (show m ≤ 1000 by omega)
  have ML := Lib.hid (show n ≤ m ∧ n' ≤ m by omega)
  obtain ⟨r, hr⟩ : ∃ r, r = decide (valB a < valB b) := ⟨_, rfl⟩
  rw [← hr]
  have RE := Lib.hid hr
  have mb : (m : Int) ≤ 1000 := by omega
  clear ha hb hn hn' hm hm' hR hR' hmx hr
  go_enter Try.func46, Try.ntmps46
  go_wp2_with fail
  clear e1
  go_loopw [5] (fun i wr => ∃ k : Nat, k ≤ m ∧ i = .int .i64 ((k : Int) - 1) ∧ valB (a.drop k) = valB (b.drop k) ∧ wr = w) (fun i _ => (intOf i + 1).toNat)
  case atStart => exact ⟨m, Nat.le_refl _, rfl, by rw [List.drop_of_length_le (by rw [HN.out]; exact ML.out.1), List.drop_of_length_le (by rw [HN'.out]; exact ML.out.2)], rfl⟩
  case round =>
    obtain ⟨k, hk, rfl, hv, hw⟩ := hrel
    rw [hw]
    clear hw wr
    have V := Lib.hid hv
    clear hv
    rcases k with _ | k
    · have hD : decide ((0 : Int) ≤ (((0 : Nat) : Int) - 1)) = false := by decide
      have R0 := Lib.hid (show r = false by
        rw [RE.out]
        have := V.out
        simp only [List.drop_zero] at this
        simp [this])
      go_wp2_with fail
      go_ret
      exact ⟨by rw [R0.out]; rfl, rfl⟩
    · have hc : (((k + 1 : Nat) : Int) - 1) = (k : Int) := by omega
      rw [hc]
      have hD : decide ((0 : Int) ≤ (k : Int)) = true := by simp
      have kb : (k : Int) ≤ 1000 := by have := M1.out; omega
      obtain ⟨x, hx⟩ : ∃ x, x = a.getD k 0 := ⟨_, rfl⟩
      obtain ⟨y, hy⟩ : ∃ y, y = b.getD k 0 := ⟨_, rfl⟩
      have DA := Lib.hid (digit_any a A n c HN.out k w HR.out)
      have DB := Lib.hid (digit_any b A' n' c' HN'.out k w HR'.out)
      rw [← hx] at DA
      rw [← hy] at DB
      have XE := Lib.hid hx
      have YE := Lib.hid hy
      have xb : (x : Int) ≤ 255 := by have := getD_le HA.out k; omega
      have yb : (y : Int) ≤ 255 := by have := getD_le HB.out k; omega
      clear hc hx hy
      go_wp2_with fail
      refine DA.out.mono ?_
      rintro e w1 ⟨rfl, hw⟩
      rw [hw]
      clear hw w1
      go_wp2_with fail
      refine DB.out.mono ?_
      rintro e w1 ⟨rfl, hw⟩
      rw [hw]
      clear hw w1
      by_cases hxy : x = y
      · have hE : (((x : Int)) != (y : Int)) = false := by simp; omega
        have hE2 : decide (x = y) = true := by simp [hxy]
        have V2 := Lib.hid (show valB (a.drop k) = valB (b.drop k) by rw [valB_drop a, valB_drop b, V.out, ← XE.out, ← YE.out, hxy])
        clear hxy
        go_wp2_with fail
        go_roundw
        case rel => exact ⟨k, by omega, by go_num, V2.out, trivial⟩
        case measure => simp [intOf]
      · have hE : (((x : Int)) != (y : Int)) = true := by simp; omega
        have hE2 : decide (x = y) = false := by simp [hxy]
        have R2 := Lib.hid (show r = decide (x < y) by
          rw [RE.out, XE.out, YE.out]
          have := below_at a b HA.out HB.out k V.out (by rw [← XE.out, ← YE.out]; exact hxy)
          rw [decide_eq_decide]
          exact this)
        clear hxy
        go_wp2_with fail
        refine DA.out.mono ?_
        rintro e w1 ⟨rfl, hw⟩
        rw [hw]
        clear hw w1
        go_wp2_with fail
        refine DB.out.mono ?_
        rintro e w1 ⟨rfl, hw⟩
        rw [hw]
        clear hw w1
        go_wp2_with fail
        go_ret
        exact ⟨by rw [R2.out]; simp, rfl⟩
set_option maxRecDepth 100000 in
set_option maxHeartbeats 2000000 in
theorem less_any (a b : List Nat) (ha : ∀ d ∈ a, d ≤ 255) (hb : ∀ d ∈ b, d ≤ 255) (hle : valB b ≤ valB a) (A : Option Addr) (n c : Nat) (hn : a.length = n) (A' : Option Addr) (n' c' : Nat) (hn' : b.length = n') (hm : n ≤ 1000) (hm' : n' ≤ 1000) (w : World) (hR : RdV w A (NumV a)) (hR' : RdV w A' (NumV b)) :
    Calls Try.prog 48 #[.slice A n c, .slice A' n' c'] w fun e w' => ∃ v o, e = .returned v ∧ OwnV w' w.heap.size 3 v (NumV o) ∧ o.length = n ∧ (∀ d ∈ o, d ≤ 255) ∧ valB o = valB a - valB b ∧ Below w.heap.size w w' := by
  have HA := Lib.hid ha
  have HB := Lib.hid hb
  have HN := Lib.hid hn
  have HN' := Lib.hid hn'
  have HR := Lib.hid hR
  have HR' := Lib.hid hR'
  have HLE := Lib.hid hle
  have NT := Lib.hid numT
  have nb : (n : Int) ≤ 1000 := by omega
  have HM := Lib.hid hm
  clear ha hb hn hn' hm hm' hR hR' hle
  go_enter Try.func48, Try.ntmps48
  go_wp2_with fail
  go_loopw [5, 6, 7] (fun u q i wr => ∃ (o : List Nat) (k s : Nat), o.length = s ∧ s ≤ n ∧ OwnV wr w.heap.size 3 u (NumV o) ∧ q = .int .i64 (k : Int) ∧ i = .int .i64 (s : Int) ∧ LesS a b o k ∧ Below w.heap.size w wr) (fun _ _ i _ => n - (intOf i).toNat)
  case atStart => exact ⟨[], 0, 0, rfl, by omega, OwnV.nil _ _ _, rfl, rfl, LesS.start a b, Below.refl _ _⟩
  case round =>
    obtain ⟨o, k, s, hos, hsn, ho, rfl, rfl, hs, hb⟩ := hrel
    have OS := Lib.hid hos
    have O := Lib.hid ho
    have L := Lib.hid hs
    have S := Lib.hid hb
    have kb : (k : Int) ≤ 1 := by have := hs.cb; omega
    clear hos ho hs hb
    by_cases hlt : s < n
    · have hD : decide ((s : Int) < (n : Int)) = true := by simp; omega
      have hD2 : decide (s < n) = true := by simp; omega
      have sb : (s : Int) < (n : Int) := by omega
      obtain ⟨x, hx⟩ : ∃ x, x = a.getD s 0 := ⟨_, rfl⟩
      obtain ⟨y, hy⟩ : ∃ y, y = b.getD s 0 := ⟨_, rfl⟩
      have DA := Lib.hid (digit_any a A n c HN.out s wr (HR.out.keep S.out))
      have DB := Lib.hid (digit_any b A' n' c' HN'.out s wr (HR'.out.keep S.out))
      rw [← hx] at DA
      rw [← hy] at DB
      have XE := Lib.hid hx
      have YE := Lib.hid hy
      have xb : (x : Int) ≤ 255 := by have := getD_le HA.out s; omega
      have yb : (y : Int) ≤ 255 := by have := getD_le HB.out s; omega
      clear hx hy
      go_wp2_with fail
      refine DA.out.mono ?_
      rintro e w1 ⟨rfl, hw⟩
      rw [hw]
      clear hw w1
      go_wp2_with fail
      refine DB.out.mono ?_
      rintro e w1 ⟨rfl, hw⟩
      rw [hw]
      clear hw w1
      obtain ⟨d, c2, hd, hd2, hc2, hk⟩ : ∃ d c2 : Nat, (d : Int) = (x : Int) - (y : Int) - (k : Int) + 256 * (c2 : Int) ∧ d ≤ 255 ∧ c2 ≤ 1 ∧ (((x : Int) - (y : Int) - (k : Int) < 0 ∧ c2 = 1) ∨ (¬ ((x : Int) - (y : Int) - (k : Int) < 0) ∧ c2 = 0)) := by
        by_cases h : (x : Int) - (y : Int) - (k : Int) < 0
        · exact ⟨(x + 256 - y - k), 1, by omega, by omega, by omega, .inl ⟨h, rfl⟩⟩
        · exact ⟨(x - y - k), 0, by omega, by omega, by omega, .inr ⟨h, rfl⟩⟩
      have L2 := Lib.hid (L.out.step HA.out HB.out d c2 (by rw [OS.out, ← XE.out, ← YE.out]; exact hd) hd2 hc2)
      have DL := Lib.hid hd2
      have hcase := hk
      clear hk hd2 hc2
      rcases hcase with ⟨h1, rfl⟩ | ⟨h1, rfl⟩
      · have hN : decide ((x : Int) - (y : Int) - (k : Int) < 0) = true := by simp; omega
        have e2 : (x : Int) - (y : Int) - (k : Int) + 256 = (d : Int) := by omega
        have HD := Lib.hid hd
        clear hd
        go_upto_region 11 with fail
        clear hN h1 e2
        go_wp2_with (
          refine appV_list rfl NT.out (.tmp 28) (.tmp 30) rfl w.heap.size u5 (NumV o) [.int .i64 (d : Int)] (some ⟨wr.heap.size, 0, none⟩) 1 1 rfl rfl rfl (O.out.alloc _) (RdV.one (row_cell (fr := (0, 0)) (ha_new wr _ _ rfl) 0 rfl)) (by intro u hu; simp at hu; subst hu; rfl) ?c1 ?c2 ?c3 ?_
          )
        case c1 => have := S.out.size; rw [ha_size]; omega
        case c2 => have := OS.out; have := HM.out; rw [NumV_length]; omega
        case c3 => have := OS.out; have := HM.out; rw [NumV_length]; omega
        intro v2 w2 ho hg _
        have B2 : Below w.heap.size w (wr.alloc (.cells #[.int .i64 (d : Int)] 3)) := S.out.alloc S.out.size _
        have S2 := Lib.hid (B2.trans (grown_below hg (by rw [ha_size]; have := S.out.size; omega) (fun q e => (O.out.lt q e).1)))
        have O2 := Lib.hid (show OwnV w2 w.heap.size 3 v2 (NumV (o ++ [d])) by rw [NumV_append]; exact ho)
        clear ho hg B2
        go_wp2_with fail
        go_roundw
        case rel => exact ⟨o ++ [d], 1, s + 1, by rw [List.length_append, OS.out]; rfl, by omega, O2.out, rfl, by go_num, L2.out, S2.out⟩
        case measure => simp [intOf]; omega
      · have hN : decide ((x : Int) - (y : Int) - (k : Int) < 0) = false := by simp; omega
        have e2 : (x : Int) - (y : Int) - (k : Int) = (d : Int) := by omega
        have HD := Lib.hid hd
        clear hd
        go_upto_region 11 with fail
        clear hN h1 e2
        go_wp2_with (
          refine appV_list rfl NT.out (.tmp 28) (.tmp 30) rfl w.heap.size u5 (NumV o) [.int .i64 (d : Int)] (some ⟨wr.heap.size, 0, none⟩) 1 1 rfl rfl rfl (O.out.alloc _) (RdV.one (row_cell (fr := (0, 0)) (ha_new wr _ _ rfl) 0 rfl)) (by intro u hu; simp at hu; subst hu; rfl) ?c1 ?c2 ?c3 ?_
          )
        case c1 => have := S.out.size; rw [ha_size]; omega
        case c2 => have := OS.out; have := HM.out; rw [NumV_length]; omega
        case c3 => have := OS.out; have := HM.out; rw [NumV_length]; omega
        intro v2 w2 ho hg _
        have B2 : Below w.heap.size w (wr.alloc (.cells #[.int .i64 (d : Int)] 3)) := S.out.alloc S.out.size _
        have S2 := Lib.hid (B2.trans (grown_below hg (by rw [ha_size]; have := S.out.size; omega) (fun q e => (O.out.lt q e).1)))
        have O2 := Lib.hid (show OwnV w2 w.heap.size 3 v2 (NumV (o ++ [d])) by rw [NumV_append]; exact ho)
        clear ho hg B2
        go_wp2_with fail
        go_roundw
        case rel => exact ⟨o ++ [d], 0, s + 1, by rw [List.length_append, OS.out]; rfl, by omega, O2.out, rfl, by go_num, L2.out, S2.out⟩
        case measure => simp [intOf]; omega
    · have hD : decide ((s : Int) < (n : Int)) = false := by simp; omega
      have hD2 : decide (s < n) = false := by simp; omega
      have SN := Lib.hid (show s = n by omega)
      clear hlt hsn
      go_wp2_with fail
      go_ret
      exact ⟨_, o, rfl, O.out, by rw [OS.out, SN.out], L.out.dig, L.out.done (by rw [OS.out, SN.out, HN.out]) HLE.out HA.out, S.out⟩
end Go.Proofs.Ytdheopihcohciaa
