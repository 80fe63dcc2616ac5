/- The document's numbers: carried. -/
import Derived.Test.YtdheopihcohciaaRefNum
namespace Go.Proofs.Ytdheopihcohciaa
set_option linter.unusedVariables false
set_option linter.unusedSimpArgs false
open Go.RowKit
attribute [local go_sem ↓] Go.wp_at_zero Go.wp_at_succ

/-- What a sum of numbers comes to. -/
structure Digs (l : List Nat) (x m : Nat) : Prop where
  val : valB l = x
  dig : ∀ d ∈ l, d < 256
  len : m ≤ l.length
  top : l.length ≤ m ∨ 256 ^ (l.length - 1) ≤ x
theorem numT : SlT Try.prog 69 3 (.int .i64 0) 8 := ⟨Try.underlying69, by kernel_rfl, by rfl⟩
theorem NumV_one (l : List Nat) : ∀ u ∈ NumV l, u.oneCell' = true := by
  intro u hu
  simp only [NumV, List.mem_map] at hu
  obtain ⟨q, _, rfl⟩ := hu
  rfl
/-- While it is carried. -/
structure CarS (l : List Nat) (o : List Nat) (c : Nat) : Prop where
  val : valB o + 256 ^ o.length * (c + valB (l.drop o.length)) = valB l
  dig : ∀ d ∈ o, d < 256
  cb : c ≤ 1099511627776
  top : o.length ≤ l.length ∨ 256 ^ (o.length - 1) ≤ valB l
  few : o.length ≤ l.length ∨ o.length + c ≤ l.length + 1099511627776
theorem CarS.start (l : List Nat) : CarS l [] 0 := ⟨by simp [valB], by simp, by omega, by simp, by simp⟩
theorem getD_le {l : List Nat} {B : Nat} (h : ∀ d ∈ l, d ≤ B) (i : Nat) : l.getD i 0 ≤ B := by
  by_cases hi : i < l.length
  · rw [List.getD_eq_getElem?_getD, List.getElem?_eq_getElem hi]
    exact h _ (List.getElem_mem hi)
  · rw [List.getD_eq_getElem?_getD, List.getElem?_eq_none (by omega)]
    exact Nat.zero_le _
theorem CarS.step {l o : List Nat} {c : Nat} (h : CarS l o c) (hl : ∀ d ∈ l, d ≤ 1099511627776) (hgo : o.length < l.length ∨ 0 < c) : CarS l (o ++ [(c + l.getD o.length 0) % 256]) ((c + l.getD o.length 0) / 256) where
  val := by
    have e := h.val
    rw [valB_drop] at e
    rw [valB_append, List.length_append, List.length_singleton, ← e, valB, valB, Nat.pow_succ]
    have := Nat.div_add_mod (c + l.getD o.length 0) 256
    generalize (c + l.getD o.length 0) / 256 = q at *
    generalize (c + l.getD o.length 0) % 256 = r at *
    have e2 : c + (l.getD o.length 0 + 256 * valB (l.drop (o.length + 1))) = r + 256 * (q + valB (l.drop (o.length + 1))) := by omega
    rw [e2]
    grind
  dig := by
    intro d hd
    rcases List.mem_append.1 hd with hd | hd
    · exact h.dig d hd
    · simp at hd
      omega
  cb := by
    have := h.cb
    have := getD_le hl o.length
    omega
  top := by
    rw [List.length_append, List.length_singleton]
    by_cases h1 : o.length < l.length
    · left; omega
    · right
      have e := h.val
      rw [List.drop_of_length_le (by omega)] at e
      have hc : 0 < c := hgo.resolve_left h1
      simp only [valB, Nat.add_zero] at e
      rw [Nat.add_sub_cancel, ← e]
      have := Nat.le_mul_of_pos_right (256 ^ o.length) hc
      omega
  few := by
    rw [List.length_append, List.length_singleton]
    by_cases h1 : o.length < l.length
    · left; omega
    · right
      have hc : 0 < c := hgo.resolve_left h1
      have := h.cb
      have e : l.getD o.length 0 = 0 := by rw [List.getD_eq_getElem?_getD, List.getElem?_eq_none (by omega)]; rfl
      rw [e]
      rcases h.few with h2 | h2 <;> omega
theorem CarS.done {l o : List Nat} {c : Nat} (h : CarS l o c) (h1 : ¬ (o.length < l.length)) (h2 : c = 0) : Digs o (valB l) l.length := by
  refine ⟨?_, h.dig, by omega, h.top⟩
  have e := h.val
  rw [List.drop_of_length_le (by omega), h2] at e
  simpa [valB] using e
set_option maxRecDepth 100000 in
set_option maxHeartbeats 2000000 in
theorem carried_any (l : List Nat) (hl : ∀ d ∈ l, d ≤ 1099511627776) (A : Option Addr) (n c : Nat) (hn : l.length = n) (hm : n ≤ 1000) (w : World) (hR : RdV w A (NumV l)) :
    Calls Try.prog 49 #[.slice A n c] w fun e w' => ∃ v o, e = .returned v ∧ OwnV w' w.heap.size 3 v (NumV o) ∧ Digs o (valB l) n ∧ Below w.heap.size w w' := by
  have HL := Lib.hid hl
  have HN := Lib.hid hn
  have HR := Lib.hid hR
  have HM := Lib.hid hm
  have NT := Lib.hid numT
  clear hl hn hR hm
  go_enter Try.func49, Try.ntmps49
  go_wp2_with fail
  go_loopw [3, 4, 5] (fun u q i wr => ∃ (o : List Nat) (k : Nat), OwnV wr w.heap.size 3 u (NumV o) ∧ q = .int .i64 (k : Int) ∧ i = .int .i64 (o.length : Int) ∧ CarS l o k ∧ Below w.heap.size w wr) (fun _ q i _ => (n - (intOf i).toNat) * 4398046511104 + (intOf q).toNat)
  case atStart => exact ⟨[], 0, OwnV.nil _ _ _, rfl, rfl, CarS.start l, Below.refl _ _⟩
  case round =>
    obtain ⟨o, k, ho, rfl, rfl, hs, hb⟩ := hrel
    have O1 := Lib.hid ho
    have S1 := Lib.hid hs
    have B1 := Lib.hid hb
    obtain ⟨i, hi⟩ : ∃ i, i = o.length := ⟨_, rfl⟩
    rw [← hi]
    have IE := Lib.hid hi
    clear ho hs hb hi
    have kb : (k : Int) ≤ 1099511627776 := by have := S1.out.cb; omega
    have ib : (i : Int) ≤ 2199023256552 := by have := S1.out.few; have := IE.out; have := HM.out; have := HN.out; omega
    obtain ⟨d, hd⟩ : ∃ d, d = l.getD i 0 := ⟨_, rfl⟩
    have DE := Lib.hid hd
    have db : (d : Int) ≤ 1099511627776 := by have := getD_le HL.out i; omega
    clear hd
    by_cases hlt : i < n
    · have hD : decide ((i : Int) < (n : Int)) = true := by simp; omega
      have hgo := Lib.hid (show o.length < l.length ∨ 0 < k from .inl (by rw [HN.out, ← IE.out]; exact hlt))
      go_wp2_with fail
      refine (digit_any l A n c HN.out i _ (HR.out.keep B1.out)).mono ?_
      rintro e w1 ⟨rfl, rfl⟩
      rw [← DE.out]
      obtain ⟨q, hq⟩ : ∃ q, q = k + d := ⟨_, rfl⟩
      obtain ⟨q0, hq0⟩ : ∃ q0, q0 = q % 256 := ⟨_, rfl⟩
      obtain ⟨q1, hq1⟩ : ∃ q1, q1 = q / 256 := ⟨_, rfl⟩
      have e1 : (k : Int) + (d : Int) = (q : Int) := by omega
      have e2 : (q : Int) % 256 = (q0 : Int) := by omega
      have e3 : (q : Int) / 256 = (q1 : Int) := by omega
      have qb : (q : Int) ≤ 2199023255552 := by omega
      have ST := Lib.hid (show CarS l (o ++ [q0]) q1 by have := S1.out.step HL.out hgo.out; rw [← IE.out, ← DE.out, ← hq, ← hq0, ← hq1] at this; exact this)
      have Q1 := Lib.hid (show q1 ≤ 8589934592 by omega)
      have QK := Lib.hid (show ¬ i < n → q1 < k by intro h; have e : d = 0 := by rw [DE.out, List.getD_eq_getElem?_getD, List.getElem?_eq_none (by rw [HN.out]; omega)]; rfl
                                                   have := hgo.out.resolve_left (by rw [HN.out, ← IE.out]; exact h); omega)
      clear hq hq0 hq1
      go_wp2_with (refine appV_list rfl NT.out (.tmp 21) (.tmp 24) rfl w.heap.size _ (NumV o) [.int .i64 (q0 : Int)] (some ⟨_, 0, none⟩) 1 1 rfl rfl rfl (O1.out.alloc _) (RdV.one (row_cell (fr := (0, 0)) (ha_new _ _ _ rfl) 0 rfl)) (by intro u hu; simp at hu; subst hu; rfl) ?c1 ?c2 ?c3 ?_)
      case c1 => have := B1.out.size; simp; omega
      case c2 => have := IE.out; rw [NumV_length]; omega
      case c3 => have := IE.out; rw [NumV_length]; omega
      intro v1 w2 ho hg _
      have B2 := Lib.hid (B1.out.alloc B1.out.size (.cells #[.int .i64 (q0 : Int)] 3))
      have B3 := Lib.hid (B2.out.trans (grown_below hg B2.out.size (fun g e => (O1.out.lt g e).1)))
      have O2 := Lib.hid (show OwnV w2 w.heap.size 3 v1 (NumV (o ++ [q0])) by rw [NumV_append]; exact ho)
      clear ho hg
      go_wp2_with fail
      go_roundw
      case rel => exact ⟨o ++ [q0], q1, O2.out, by go_num, by rw [List.length_append, ← IE.out]; go_num, ST.out, B3.out⟩
      case measure => have := Q1.out; have := QK.out; simp [intOf]; omega
    · by_cases hk : 0 < k
      · have hD : decide ((i : Int) < (n : Int)) = false := by simp; omega
        have hE : decide ((0 : Int) < (k : Int)) = true := by simp; omega
        have hgo := Lib.hid (show o.length < l.length ∨ 0 < k from .inr hk)
        go_wp2_with fail
        refine (digit_any l A n c HN.out i _ (HR.out.keep B1.out)).mono ?_
        rintro e w1 ⟨rfl, rfl⟩
        rw [← DE.out]
        obtain ⟨q, hq⟩ : ∃ q, q = k + d := ⟨_, rfl⟩
        obtain ⟨q0, hq0⟩ : ∃ q0, q0 = q % 256 := ⟨_, rfl⟩
        obtain ⟨q1, hq1⟩ : ∃ q1, q1 = q / 256 := ⟨_, rfl⟩
        have e1 : (k : Int) + (d : Int) = (q : Int) := by omega
        have e2 : (q : Int) % 256 = (q0 : Int) := by omega
        have e3 : (q : Int) / 256 = (q1 : Int) := by omega
        have qb : (q : Int) ≤ 2199023255552 := by omega
        have ST := Lib.hid (show CarS l (o ++ [q0]) q1 by have := S1.out.step HL.out hgo.out; rw [← IE.out, ← DE.out, ← hq, ← hq0, ← hq1] at this; exact this)
        have Q1 := Lib.hid (show q1 ≤ 8589934592 by omega)
        have QK := Lib.hid (show ¬ i < n → q1 < k by intro h; have e : d = 0 := by rw [DE.out, List.getD_eq_getElem?_getD, List.getElem?_eq_none (by rw [HN.out]; omega)]; rfl
                                                     have := hgo.out.resolve_left (by rw [HN.out, ← IE.out]; exact h); omega)
        clear hq hq0 hq1
        go_wp2_with (refine appV_list rfl NT.out (.tmp 21) (.tmp 24) rfl w.heap.size _ (NumV o) [.int .i64 (q0 : Int)] (some ⟨_, 0, none⟩) 1 1 rfl rfl rfl (O1.out.alloc _) (RdV.one (row_cell (fr := (0, 0)) (ha_new _ _ _ rfl) 0 rfl)) (by intro u hu; simp at hu; subst hu; rfl) ?c1 ?c2 ?c3 ?_)
        case c1 => have := B1.out.size; simp; omega
        case c2 => have := IE.out; rw [NumV_length]; omega
        case c3 => have := IE.out; rw [NumV_length]; omega
        intro v1 w2 ho hg _
        have B2 := Lib.hid (B1.out.alloc B1.out.size (.cells #[.int .i64 (q0 : Int)] 3))
        have B3 := Lib.hid (B2.out.trans (grown_below hg B2.out.size (fun g e => (O1.out.lt g e).1)))
        have O2 := Lib.hid (show OwnV w2 w.heap.size 3 v1 (NumV (o ++ [q0])) by rw [NumV_append]; exact ho)
        clear ho hg
        go_wp2_with fail
        go_roundw
        case rel => exact ⟨o ++ [q0], q1, O2.out, by go_num, by rw [List.length_append, ← IE.out]; go_num, ST.out, B3.out⟩
        case measure => have := Q1.out; have := QK.out; simp [intOf]; omega
      · have hD : decide ((i : Int) < (n : Int)) = false := by simp; omega
        have hE : decide ((0 : Int) < (k : Int)) = false := by simp; omega
        go_wp2_with fail
        go_ret
        exact ⟨_, o, rfl, O1.out, by have := S1.out.done (by rw [HN.out, ← IE.out]; exact hlt) (by omega); rwa [HN.out] at this, B1.out⟩
end Go.Proofs.Ytdheopihcohciaa
