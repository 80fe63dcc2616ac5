/- Part 4 of what the law LawBoxIdeal needs. No condition but those each theorem states. -/
import Derived.ChangeKeysEq
import Derived.ChangeOld
import Derived.ChangeSlices
import Derived.Deep.Matrix
import Derived.Deep.MidRow
import Derived.Deep.SlicePairs
import Derived.DeepKeys
import Derived.Defers
import Derived.Lib.SlBytesConst
import Derived.OpenShut
import Derived.ProofKit
import Derived.SizedLaws
import Derived.Test.YtldjiigkebkgcaaProg
import Derived.Test.YtldjiigkebkgcaaPkLawBoxIdealC
/- kdf.Equal: two texts are told to be the same just if they are. No condition but those each theorem states. -/
namespace Go.Proofs.Ytldjiigkebkgcaa
set_option linter.unusedVariables false
set_option linter.unusedSimpArgs false
open Go.RowKit
attribute [local go_sem ↓] Go.wp_at_zero Go.wp_at_succ

theorem orxor_ex (u a b : UInt8) : ∃ z y : UInt8, Hid (z = u ||| (a ^^^ b)) ∧ bits .xor .u8 (a.toNat : Int) (b.toNat : Int) = (y.toNat : Int) ∧ bits .or .u8 (u.toNat : Int) (y.toNat : Int) = (z.toNat : Int) := by
  refine ⟨_, a ^^^ b, rfl, u8_xor' a b, ?_⟩
  rw [u8_or_nat _ _ u.toNat_lt (a ^^^ b).toNat_lt, UInt8.toNat_or]
theorem orxor_zero (u a b : UInt8) : u ||| (a ^^^ b) = 0 ↔ u = 0 ∧ a = b := by
  constructor
  · intro h
    have h1 : u = 0 := by
      apply UInt8.toNat_inj.1
      have := congrArg UInt8.toNat h
      rw [UInt8.toNat_or] at this
      exact (Nat.or_eq_zero_iff.1 this).1
    have h2 : a ^^^ b = 0 := by
      apply UInt8.toNat_inj.1
      have := congrArg UInt8.toNat h
      rw [UInt8.toNat_or] at this
      exact (Nat.or_eq_zero_iff.1 this).2
    exact ⟨h1, UInt8.xor_eq_zero_iff.1 h2⟩
  · rintro ⟨rfl, rfl⟩
    simp
theorem take_succ_eq (a b : List UInt8) (j : Nat) (ha : j < a.length) (hb : j < b.length) : (a.take (j + 1) = b.take (j + 1)) ↔ (a.take j = b.take j ∧ a.getD j 0 = b.getD j 0) := by
  rw [List.take_add_one, List.take_add_one, List.getElem?_eq_getElem ha, List.getElem?_eq_getElem hb]
  simp only [List.getD_eq_getElem?_getD, List.getElem?_eq_getElem ha, List.getElem?_eq_getElem hb, Option.toList, Option.getD_some]
  constructor
  · intro h
    have := List.append_inj h (by simp; omega)
    exact ⟨this.1, by simpa using this.2⟩
  · rintro ⟨h1, h2⟩
    rw [h1, h2]
set_option maxRecDepth 100000 in
set_option maxHeartbeats 2000000 in
theorem equal_any (w : World) (A : Option Addr) (n c : Nat) (a : List UInt8) (hn : a.length = n) (hR : RdB w A a) (A2 : Option Addr) (n2 c2 : Nat) (b : List UInt8) (hn2 : b.length = n2) (hR2 : RdB w A2 b) (hb : n ≤ 140737488355328) (hb2 : n2 ≤ 140737488355328) :
    Calls Try.prog 44 #[.slice A n c, .slice A2 n2 c2] w fun e w' => e = .returned (.bool (decide (a = b))) ∧ Below w.heap.size w w' := by
  have HN := Lib.hid hn
  have HR := Lib.hid hR
  have HN2 := Lib.hid hn2
  have HR2 := Lib.hid hR2
  clear hn hR hn2 hR2
  go_enter Try.func44, Try.ntmps44
  by_cases he : n = n2
  · have hE : decide ((n : Int) = (n2 : Int)) = true := by simp; omega
    have hE2 : ((n : Int) != (n2 : Int)) = false := by simp; omega
    have NE := Lib.hid he
    clear he
    go_wp2_with fail
    clear hE hE2
    go_loopw [5, 6, 14] (fun u _ i wr => ∃ (j : Nat) (x : UInt8), j ≤ n ∧ i = .int .i64 (j : Int) ∧ u = .int .u8 (x.toNat : Int) ∧ (x = 0 ↔ a.take j = b.take j) ∧ Below w.heap.size w wr) (fun _ _ i _ => n - (intOf i).toNat)
    case atStart => exact ⟨0, 0, by omega, rfl, rfl, by simp, Below.refl _ _⟩
    case round =>
      obtain ⟨j, x, hj, rfl, rfl, hx, hbel⟩ := hrel
      have J := Lib.hid hj
      have X := Lib.hid hx
      have BL := Lib.hid hbel
      clear hj hx hbel
      by_cases hlt : j < n
      · have hD : decide ((j : Int) < (n : Int)) = true := by simp; omega
        obtain ⟨b1, o1, rfl, h1⟩ := (HR.out.keep BL.out) j (by rw [HN.out]; exact hlt)
        obtain ⟨b2, o2, rfl, h2⟩ := (HR2.out.keep BL.out) j (by rw [HN2.out]; have := NE.out; omega)
        obtain ⟨y, hy⟩ : ∃ y, y = a.getD j 0 := ⟨_, rfl⟩
        obtain ⟨v, hv⟩ : ∃ y, y = b.getD j 0 := ⟨_, rfl⟩
        rw [← hy] at h1
        rw [← hv] at h2
        have Y := Lib.hid hy
        have V := Lib.hid hv
        obtain ⟨z, t, hz, e1, e2⟩ := orxor_ex x y v
        have c1 := Lib.hid h1
        have c2 := Lib.hid h2
        have l1 : (j : Int) < (n : Int) := by omega
        have l2 : (j : Int) < (n2 : Int) := by have := NE.out; omega
        clear hy hv h1 h2
        go_upto_region 7 with fail
        have S1 := Lib.hid (show (wr.drew).cell? ⟨b1, o1 + j, none⟩ = some (.int .u8 (y.toNat : Int)) ∧ (wr.drew).cell? ⟨b2, o2 + j, none⟩ = some (.int .u8 (v.toNat : Int)) from ⟨c1.out, c2.out⟩)
        refine wp_region_road (fun W => W.cell? ⟨b1, o1 + j, none⟩ = some (.int .u8 (y.toNat : Int)) ∧ W.cell? ⟨b2, o2 + j, none⟩ = some (.int .u8 (v.toNat : Int))) [(true, 0), (true, 1), (true, 2), (true, 3), (true, 4), (true, 5), (true, 6), (true, 7), (true, 8), (true, 9), (true, 10), (true, 11)] (by kernel_rfl) (by kernel_rfl) (fun _ _ d _ _ h => by cases d <;> exact h) ?_
        simp only [List.filterMap_cons, List.filterMap_nil, List.getElem?_toArray, List.getElem?_cons_zero, List.getElem?_cons_succ, Option.map_some]
        refine planG_q (v := ?_) (by rfl) (S1.out) ?_ ?_
        rotate_left
        · intro W hW
          go_simp
          with_reducible rfl
        simp only [Act.put, List.setIfInBounds_toArray, List.set_cons_zero, List.set_cons_succ]
        refine planG_q (v := ?_) (by rfl) (S1.out) ?_ ?_
        rotate_left
        · intro W hW
          go_simp
          with_reducible rfl
        simp only [Act.put, List.setIfInBounds_toArray, List.set_cons_zero, List.set_cons_succ]
        refine planG_q (v := ?_) (by rfl) (S1.out) ?_ ?_
        rotate_left
        · intro W hW
          go_simp
          with_reducible rfl
        simp only [Act.put, List.setIfInBounds_toArray, List.set_cons_zero, List.set_cons_succ]
        refine planG_q (v := ?_) (by rfl) (S1.out) ?_ ?_
        rotate_left
        · intro W hW
          go_simp
          with_reducible rfl
        simp only [Act.put, List.setIfInBounds_toArray, List.set_cons_zero, List.set_cons_succ]
        refine planG_q (by rfl) (S1.out) (fun W hW => run_cell 5 (.tmp 20) rfl _ Try.underlying5 rfl rfl hW.1) ?_
        simp only [Act.put, List.setIfInBounds_toArray, List.set_cons_zero, List.set_cons_succ]
        refine planG_q (v := ?_) (by rfl) (S1.out) ?_ ?_
        rotate_left
        · intro W hW
          go_simp
          with_reducible rfl
        simp only [Act.put, List.setIfInBounds_toArray, List.set_cons_zero, List.set_cons_succ]
        refine planG_q (v := ?_) (by rfl) (S1.out) ?_ ?_
        rotate_left
        · intro W hW
          go_simp
          with_reducible rfl
        simp only [Act.put, List.setIfInBounds_toArray, List.set_cons_zero, List.set_cons_succ]
        refine planG_q (v := ?_) (by rfl) (S1.out) ?_ ?_
        rotate_left
        · intro W hW
          go_simp
          with_reducible rfl
        simp only [Act.put, List.setIfInBounds_toArray, List.set_cons_zero, List.set_cons_succ]
        refine planG_q (by rfl) (S1.out) (fun W hW => run_cell 5 (.tmp 24) rfl _ Try.underlying5 rfl rfl hW.2) ?_
        simp only [Act.put, List.setIfInBounds_toArray, List.set_cons_zero, List.set_cons_succ]
        refine planG_q (v := ?_) (by rfl) (S1.out) ?_ ?_
        rotate_left
        · intro W hW
          go_simp
          with_reducible rfl
        simp only [Act.put, List.setIfInBounds_toArray, List.set_cons_zero, List.set_cons_succ]
        refine planG_q (v := ?_) (by rfl) (S1.out) ?_ ?_
        rotate_left
        · intro W hW
          go_simp
          with_reducible rfl
        simp only [Act.put, List.setIfInBounds_toArray, List.set_cons_zero, List.set_cons_succ]
        refine planG_q (v := ?_) (by rfl) (S1.out) ?_ ?_
        rotate_left
        · intro W hW
          go_simp
          with_reducible rfl
        simp only [Act.put, List.setIfInBounds_toArray, List.set_cons_zero, List.set_cons_succ]
        refine planG_nil ?_
        go_wp2_with fail
        go_roundw
        case rel => exact ⟨j + 1, z, by omega, by go_num, rfl, by rw [hz.out, orxor_zero, X.out, Y.out, V.out, take_succ_eq a b j (by rw [HN.out]; exact hlt) (by rw [HN2.out]; have := NE.out; omega)], BL.out.drew⟩
        case measure => simp [intOf]; omega
      · have hjn : Hid (j = n) := show j = n by have := J.out; omega
        have hD : decide ((j : Int) < (n : Int)) = false := by simp; omega
        have FX := Lib.hid (show x = 0 ↔ a = b by
          have := X.out
          rwa [hjn.out, List.take_of_length_le (by rw [HN.out]; omega), List.take_of_length_le (by rw [HN2.out]; have := NE.out; omega)] at this)
        by_cases hx0 : x = 0
        · have hF : ((x.toNat : Int) == 0) = true := by simp [hx0]
          have hG := Lib.hid (show decide (a = b) = true by simp; exact FX.out.1 hx0)
          go_wp2_with fail
          go_ret
          exact ⟨by rw [hG.out]; rfl, BL.out⟩
        · have hF : ((x.toNat : Int) == 0) = false := by
            simp only [beq_eq_false_iff_ne, ne_eq]
            intro h
            exact hx0 (UInt8.toNat_inj.1 (by show x.toNat = 0; omega))
          have hG := Lib.hid (show decide (a = b) = false by simp; exact fun h => hx0 (FX.out.2 h))
          go_wp2_with fail
          go_ret
          exact ⟨by rw [hG.out]; rfl, BL.out⟩
  · have hE : decide ((n : Int) = (n2 : Int)) = false := by simp; omega
    have hE2 : ((n : Int) != (n2 : Int)) = true := by simp; omega
    have hG : decide (a = b) = false := by simp; intro h; apply he; rw [← HN.out, ← HN2.out, h]
    rw [hG]
    go_wp2_with fail
    go_ret
    exact ⟨rfl, Below.refl _ _⟩
end Go.Proofs.Ytldjiigkebkgcaa

/- A region that draws its order in a function that defers: what is handed back at the door must not hang on the slots that the region writes. No condition but those each theorem states. -/
namespace Go.Proofs.Ytldjiigkebkgcaa
set_option linter.unusedVariables false
set_option linter.unusedSimpArgs false
open Go.RowKit

section
variable {P : Program} {ops : Array Oper} {Q : Exit → Act → World → Prop} {S : World → Prop} {D : Option Tmp → Bool}
theorem planG_soundD (hQ : ∀ c a d v w, D d = true → Q (.panic c) (Act.put a d v) w → Q (.panic c) a w) (hD : ∀ (i : Nat) (o : Oper), ops[i]? = some o → D o.dst = true) (hs : Region.noSelect ops = true) : ∀ (T : List (Bool × Nat)) (S : World → Prop) (fuel : Nat) (L : Array Bool) (a : Act) (w : World), T.length ≤ fuel → planGB ops T L = true →
    planG P ops Q S (T.filterMap fun i => (ops[i.2]?).map fun o => (i.1, o)) a w → wpAnyH P .any ops Q S fuel L a w
  | [], S, fuel, L, a, w, _, hB, h => by
    simp only [planGB, List.isEmpty_iff] at hB
    exact wpAnyH_done hB h fuel
  | (true, i) :: T, S, fuel, L, a, w, hf, hB, h => by
    simp only [planGB, Bool.and_eq_true] at hB
    obtain ⟨⟨⟨hi, hfr⟩, hr⟩, hB'⟩ := hB
    obtain ⟨o, ho⟩ := Option.isSome_iff_exists.1 hi
    obtain ⟨fuel, rfl⟩ : ∃ m, fuel = m + 1 := ⟨fuel - 1, by simp at hf; omega⟩
    have e : ((true, i) :: T).filterMap (fun i => (ops[i.2]?).map fun o => (i.1, o)) = (true, o) :: T.filterMap fun i => (ops[i.2]?).map fun o => (i.1, o) := by simp [ho]
    rw [e] at h
    obtain ⟨S', hSS, hS, v, hy, h'⟩ := h
    exact wpAnyH_narrow hSS _ _ _ _ (wpAnyH_take ho hs hfr hr (fun c a w hh => hQ c a _ _ w (hD i o ho) hh) hy hS (planG_soundD hQ hD hs T S' fuel _ _ w (by simp at hf ⊢; omega) hB' h'))
  | (false, i) :: T, S, fuel, L, a, w, hf, hB, h => by
    simp only [planGB, Bool.and_eq_true] at hB
    obtain ⟨⟨hi, hr0⟩, hB'⟩ := hB
    have hr : Region.ready .any ops L = [i] := by
      split at hr0
      · rename_i j hj
        rw [hj, Nat.eq_of_beq_eq_true hr0]
      · cases hr0
    obtain ⟨o, ho⟩ := Option.isSome_iff_exists.1 hi
    obtain ⟨fuel, rfl⟩ : ∃ m, fuel = m + 1 := ⟨fuel - 1, by simp at hf; omega⟩
    have e : ((false, i) :: T).filterMap (fun i => (ops[i.2]?).map fun o => (i.1, o)) = (false, o) :: T.filterMap fun i => (ops[i.2]?).map fun o => (i.1, o) := by simp [ho]
    rw [e] at h
    obtain ⟨S', hSS, h⟩ := h
    refine wpAnyH_narrow hSS _ _ _ _ (wpAnyH_all hr (by simp) ?_)
    intro j hj
    obtain rfl : j = i := by simpa using hj
    unfold wpOp
    simp only [ho]
    split
    · rename_i hw
      rw [if_pos hw] at h
      refine .inl ?_
      exact Oper.wp_mono (fun a' w' hh => ⟨hh.1, planG_soundD hQ hD hs T S' fuel _ a' w' (by simp at hf; omega) hB' hh.2⟩) h
    · rename_i hw
      rw [if_neg hw] at h
      exact ⟨h.1, planG_soundD hQ hD hs T S' fuel _ _ w (by simp at hf; omega) hB' h.2⟩
theorem all_dst {l : List Oper} (h : l.all (fun o => D o.dst) = true) : ∀ (i : Nat) (o : Oper), l.toArray[i]? = some o → D o.dst = true := by
  intro i o ho
  rw [List.getElem?_toArray] at ho
  exact List.all_eq_true.1 h o (List.mem_of_getElem? ho)
/-- THE LAW. -/
theorem wp_region_roadD {id : Nat} {l : List Oper} {a : Act} {w : World} (D : Option Tmp → Bool) (hD : l.all (fun o => D o.dst) = true) (S : World → Prop) (T : List (Bool × Nat)) (hm : P.follows .mixedOrders = true)
    (hB : (planGB l.toArray T (Array.replicate l.toArray.size false) && Region.noSelect l.toArray && Nat.ble T.length l.toArray.size) = true)
    (hQ : ∀ c a d v w, D d = true → Q (.panic c) (Act.put a d v) w → Q (.panic c) a w)
    (h : planG P l.toArray Q S (T.filterMap fun i => (l.toArray[i.2]?).map fun o => (i.1, o)) a w.drew) : (Code.region id l.toArray true).wp P Q a w := by
  simp only [Bool.and_eq_true] at hB
  exact wp_region_held hm (planG_soundD hQ (all_dst hD) hB.1.2 T S _ _ a w.drew (Nat.le_of_ble_eq_true hB.2) hB.1.1 h)
theorem road_soundD (hQ : ∀ c a d v w, D d = true → Q (.panic c) (Act.put a d v) w → Q (.panic c) a w) (hD : ∀ (i : Nat) (o : Oper), ops[i]? = some o → D o.dst = true) (hs : Region.noSelect ops = true) : ∀ (T : Road) (S : World → Prop) (fuel : Nat) (L : Array Bool) (a : Act) (w : World), roadN T ≤ fuel → roadB ops T L = true →
    road P ops Q S T a w → wpAnyH P .any ops Q S fuel L a w := by
  intro T
  induction T with
  | done =>
    intro S fuel L a w _ hB h
    simp only [roadB, List.isEmpty_iff] at hB
    exact wpAnyH_done hB h fuel
  | q i T ih =>
    intro S fuel L a w hf hB h
    simp only [roadB, Bool.and_eq_true] at hB
    obtain ⟨⟨⟨hi, hfr⟩, hr⟩, hB'⟩ := hB
    simp only [roadN] at hf
    obtain ⟨fuel, rfl⟩ : ∃ m, fuel = m + 1 := ⟨fuel - 1, by omega⟩
    obtain ⟨S', hSS, hS, o, ho, v, hy, h'⟩ := h
    exact wpAnyH_narrow hSS _ _ _ _ (wpAnyH_take ho hs hfr hr (fun c a w hh => hQ c a _ _ w (hD _ _ ho) hh) hy hS (ih S' fuel _ _ w (by omega) hB' h'))
  | t i T ih =>
    intro S fuel L a w hf hB h
    simp only [roadB, Bool.and_eq_true] at hB
    obtain ⟨⟨hi, hr0⟩, hB'⟩ := hB
    have hr : Region.ready .any ops L = [i] := by
      split at hr0
      · rename_i j hj
        rw [hj, Nat.eq_of_beq_eq_true hr0]
      · cases hr0
    simp only [roadN] at hf
    obtain ⟨fuel, rfl⟩ : ∃ m, fuel = m + 1 := ⟨fuel - 1, by omega⟩
    obtain ⟨S', hSS, h⟩ := h
    refine wpAnyH_narrow hSS _ _ _ _ (wpAnyH_all hr (by simp) ?_)
    intro j hj
    obtain rfl : j = i := by simpa using hj
    exact stepR_sound h (fun a w h => ih S' fuel _ a w (by omega) hB' h)
  | two i T j U ihT ihU =>
    intro S fuel L a w hf hB h
    simp only [roadB, Bool.and_eq_true] at hB
    obtain ⟨⟨⟨_, hr0⟩, hT⟩, hU⟩ := hB
    have hr : Region.ready .any ops L = [i, j] := by
      split at hr0
      · rename_i a b hj
        simp only [Bool.and_eq_true] at hr0
        rw [hj, Nat.eq_of_beq_eq_true hr0.1, Nat.eq_of_beq_eq_true hr0.2]
      · cases hr0
    simp only [roadN] at hf
    obtain ⟨fuel, rfl⟩ : ∃ m, fuel = m + 1 := ⟨fuel - 1, by omega⟩
    obtain ⟨S', hSS, h1, h2⟩ := h
    refine wpAnyH_narrow hSS _ _ _ _ (wpAnyH_all hr (by simp) ?_)
    intro k hk
    simp only [List.mem_cons, List.not_mem_nil, or_false] at hk
    rcases hk with rfl | rfl
    · exact stepR_sound h1 (fun a w h => ihT S' fuel _ a w (by omega) hT h)
    · exact stepR_sound h2 (fun a w h => ihU S' fuel _ a w (by omega) hU h)
  | three i T j U k V ihT ihU ihV =>
    intro S fuel L a w hf hB h
    simp only [roadB, Bool.and_eq_true] at hB
    obtain ⟨⟨⟨⟨_, hr0⟩, hT⟩, hU⟩, hV⟩ := hB
    have hr : Region.ready .any ops L = [i, j, k] := by
      split at hr0
      · rename_i a b c hj
        simp only [Bool.and_eq_true] at hr0
        rw [hj, Nat.eq_of_beq_eq_true hr0.1.1, Nat.eq_of_beq_eq_true hr0.1.2, Nat.eq_of_beq_eq_true hr0.2]
      · cases hr0
    simp only [roadN] at hf
    obtain ⟨fuel, rfl⟩ : ∃ m, fuel = m + 1 := ⟨fuel - 1, by omega⟩
    obtain ⟨S', hSS, h1, h2, h3⟩ := h
    refine wpAnyH_narrow hSS _ _ _ _ (wpAnyH_all hr (by simp) ?_)
    intro m hm
    simp only [List.mem_cons, List.not_mem_nil, or_false] at hm
    rcases hm with rfl | rfl | rfl
    · exact stepR_sound h1 (fun a w h => ihT S' fuel _ a w (by omega) hT h)
    · exact stepR_sound h2 (fun a w h => ihU S' fuel _ a w (by omega) hU h)
    · exact stepR_sound h3 (fun a w h => ihV S' fuel _ a w (by omega) hV h)
/-- THE LAW, a tree. -/
theorem wp_region_treeD {id : Nat} {l : List Oper} {a : Act} {w : World} (D : Option Tmp → Bool) (hD : l.all (fun o => D o.dst) = true) (S : World → Prop) (T : Road) (hm : P.follows .mixedOrders = true)
    (hB : (roadB l.toArray T (Array.replicate l.toArray.size false) && Region.noSelect l.toArray && Nat.ble (roadN T) l.toArray.size) = true)
    (hQ : ∀ c a d v w, D d = true → Q (.panic c) (Act.put a d v) w → Q (.panic c) a w)
    (h : road P l.toArray Q S T a w.drew) : (Code.region id l.toArray true).wp P Q a w := by
  simp only [Bool.and_eq_true] at hB
  exact wp_region_held hm (road_soundD hQ (all_dst hD) hB.1.2 T S _ _ a w.drew (Nat.le_of_ble_eq_true hB.2) hB.1.1 h)
end
theorem leaves_tmps {P : Program} {fn : Func} {t1 t2 : Array Value} {R : Ending → World → Prop} (hr : results fn t1 = results fn t2) : ∀ (ds : List Deferred) (u : FrameMode) (w : World), Leaves P fn t1 R ds u w → Leaves P fn t2 R ds u w
  | [], .returning, w, h => by
    unfold Leaves at h ⊢
    rw [← hr]
    exact h
  | [], .panicking _, w, h => by
    unfold Leaves at h ⊢
    exact h
  | [], .run, w, h => by
    unfold Leaves at h
    exact h.elim
  | d :: ds, u, w, h => by
    unfold Leaves at h ⊢
    obtain ⟨h1, fv, cap, f, args, h2, h3, h4⟩ := h
    refine ⟨h1, fv, cap, f, args, h2, h3, h4.mono ?_⟩
    intro e u' w' hh
    cases e with
    | returned v => exact leaves_tmps hr ds _ _ hh
    | panicked c => exact leaves_tmps hr ds _ _ hh
    | outgrown => exact hh
theorem door_put {P : Program} {fn : Func} {R : Ending → World → Prop} {c : List PanicEntry} {a : Act} {d : Option Tmp} {v : Value} {w : World} (hr : results fn (a.put d v).tmps = results fn a.tmps) (h : bodyPostD P fn R (.panic c) (a.put d v) w) : bodyPostD P fn R (.panic c) a w := by
  have hd : (a.put d v).defers = a.defers := by cases d <;> rfl
  have h' : Leaves P fn (a.put d v).tmps R (a.put d v).defers (.panicking c) w := h
  rw [hd] at h'
  exact leaves_tmps hr _ _ _ h'
end Go.Proofs.Ytldjiigkebkgcaa

/- aead: Open. No condition but those each theorem states. -/
namespace Go.Proofs.Ytldjiigkebkgcaa
set_option linter.unusedVariables false
set_option linter.unusedSimpArgs false
open Go.RowKit
attribute [local go_sem ↓] Go.wp_at_zero Go.wp_at_succ

/-- What opens to what. -/
def openL (k n beside sealed : List UInt8) : Option (List UInt8) :=
  if sealed.length < 16 then none else if tagL k n beside (sealed.take (sealed.length - 16)) = sealed.drop (sealed.length - 16) then some (streamL k n 1 (sealed.take (sealed.length - 16))) else none
/-- What the opener hands back. -/
def OpenP (w : World) (r : Option (List UInt8)) (e : Ending) (w' : World) : Prop :=
  (match r with | some t => ∃ v, e = .returned (.tuple #[v, .bool true]) ∧ OwnB w' w.heap.size v t | none => e = .returned (.tuple #[.slice none 0 0, .bool false])) ∧ Below w.heap.size w w'
/-- The call's own four variables. -/
structure OpW (w : World) (k n : List UInt8) (W : World) : Prop where
  bk : W.heap[w.heap.size]? = some (.cells (W8 k) 37 (0, 0))
  bn : W.heap[w.heap.size + 1]? = some (.cells (W8 n) 47 (0, 0))
  bt : W.heap[w.heap.size + 1 + 1]? = some (.cells #[.slice none 0 0] 23 (0, 0))
  bo : W.heap[w.heap.size + 1 + 1 + 1]? = some (.cells #[.bool false] 4 (0, 0))
  bel : Below w.heap.size w W
theorem OpW.lt {w W : World} {k n : List UInt8} (h : OpW w k n W) : w.heap.size + 1 + 1 + 1 < W.heap.size := row_lt h.bo
theorem OpW.keep {w W W' : World} {k n : List UInt8} (h : OpW w k n W) (hb : Below W.heap.size W W') : OpW w k n W' :=
  have := h.lt
  ⟨below_block hb (by omega) h.bk, below_block hb (by omega) h.bn, below_block hb (by omega) h.bt, below_block hb (by omega) h.bo, h.bel.trans (hb.mono (by omega))⟩
theorem OpW.grow {w W W' : World} {k n : List UInt8} {M : Nat} (h : OpW w k n W) (hg : W.grownBy W' (some M)) (hM : w.heap.size + 1 + 1 + 1 < M) : OpW w k n W' :=
  ⟨grown_block hg (by simp; omega) h.bk, grown_block hg (by simp; omega) h.bn, grown_block hg (by simp; omega) h.bt, grown_block hg (by simp; omega) h.bo, h.bel.trans (grown_below hg h.bel.size (by rintro g ⟨⟩; omega))⟩
theorem op_start (w : World) (k n : List UInt8) : OpW w k n ((((w.alloc (.cells (W8 k) 37)).alloc (.cells (W8 n) 47)).alloc (.cells #[.slice none 0 0] 23)).alloc (.cells #[.bool false] 4)) where
  bk := ha_old _ _ _ (by simp <;> omega) (ha_old _ _ _ (by simp <;> omega) (ha_old _ _ _ (by simp) (ha_new _ _ _ rfl)))
  bn := ha_old _ _ _ (by simp <;> omega) (ha_old _ _ _ (by simp) (ha_new _ _ _ (by simp)))
  bt := ha_old _ _ _ (by simp) (ha_new _ _ _ (by simp))
  bo := ha_new _ _ _ (by simp)
  bel := (((((Below.refl _ _).alloc (Nat.le_refl _) _).alloc (by simp) _).alloc (by simp <;> omega) _)).alloc (by simp <;> omega) _
def D89 : Option Tmp → Bool
  | none => true
  | some x => !(x == 8) && !(x == 9)
theorem put_89 {a : Act} {d : Option Tmp} {v : Value} (hd : D89 d = true) : results Try.f29 (a.put d v).tmps = results Try.f29 a.tmps := by
  cases d with
  | none => rfl
  | some x =>
    simp [D89] at hd
    have h8 : ∀ (t : Array Value), (t.setIfInBounds x v).getD 8 undef = t.getD 8 undef := fun t => by simp [Array.getElem?_setIfInBounds, hd.1]
    have h9 : ∀ (t : Array Value), (t.setIfInBounds x v).getD 9 undef = t.getD 9 undef := fun t => by simp [Array.getElem?_setIfInBounds, hd.2]
    unfold results
    simp only [Try.results29, Act.put]
    simp [Array.getElem?_setIfInBounds, hd.1, hd.2]
/-- What was thrown is caught: no text. -/
theorem open_falls {w W : World} {k n : List UInt8} (S : OpW w k n W) (u : TypeId) (pv : Value) (tmps : Array Value) (h8 : tmps[8]?.getD undef = .pointer (some ⟨w.heap.size + 1 + 1, 0, none⟩)) (h9 : tmps[9]?.getD undef = .pointer (some ⟨w.heap.size + 1 + 1 + 1, 0, none⟩)) :
    bodyPostD Try.prog Try.f29 (OpenP w none) (Exit.panic [{ v := .iface u pv, recovered := false }]) { tmps := tmps, defers := [{ target := Target.fn (Fn.func 42) #[.pointer (some ⟨w.heap.size + 1 + 1, 0, none⟩), .pointer (some ⟨w.heap.size + 1 + 1 + 1, 0, none⟩)], args := #[] }] } W := by
  refine leaves_cons (f := 42) (args := #[.pointer (some ⟨w.heap.size + 1 + 1, 0, none⟩), .pointer (some ⟨w.heap.size + 1 + 1 + 1, 0, none⟩)]) (by simp) (by simp [go_sem]) ?_
  refine (catch_panicking ⟨w.heap.size + 1 + 1, 0, none⟩ ⟨w.heap.size + 1 + 1 + 1, 0, none⟩ _ _ (by simp) u pv [] W (row_cell S.bt 0 rfl) (row_free S.bt 0) (row_cell S.bo 0 rfl) (row_free S.bo 0)).mono ?_
  rintro e u' w'' ⟨rfl, rfl, rfl⟩
  obtain ⟨W1, hW1⟩ : ∃ W1, W1 = W.setCell ⟨w.heap.size + 1 + 1, 0, none⟩ (.slice none 0 0) := ⟨_, rfl⟩
  rw [← hW1]
  have t1 : W1.heap[w.heap.size + 1 + 1]? = some (.cells #[.slice none 0 0] 23 (0, 0)) := by rw [hW1, heap_setCell_same _ _ _ _ _ _ S.bt]; rfl
  have g1 : W.grownBy W1 (some (w.heap.size + 1 + 1)) := by rw [hW1]; exact grown_set (World.grownBy.refl _ _) _ _
  have o1 : W1.heap[w.heap.size + 1 + 1 + 1]? = some (.cells #[.bool false] 4 (0, 0)) := grown_block g1 (by simp) S.bo
  obtain ⟨W2, hW2⟩ : ∃ W2, W2 = W1.setCell ⟨w.heap.size + 1 + 1 + 1, 0, none⟩ (.bool false) := ⟨_, rfl⟩
  rw [← hW2]
  have g2 : W1.grownBy W2 (some (w.heap.size + 1 + 1 + 1)) := by rw [hW2]; exact grown_set (World.grownBy.refl _ _) _ _
  have cA : W2.cell? ⟨w.heap.size + 1 + 1, 0, none⟩ = some (.slice none 0 0) := row_cell (grown_block g2 (by simp) t1) 0 rfl
  have cB : W2.cell? ⟨w.heap.size + 1 + 1 + 1, 0, none⟩ = some (.bool false) := row_cell (t := 4) (fr := (0, 0)) (cs := #[.bool false]) (by rw [hW2, heap_setCell_same _ _ _ _ _ _ o1]; rfl) 0 rfl
  have hB : Below w.heap.size w W2 := S.bel.trans ((grown_below g1 S.bel.size (by rintro k ⟨⟩; omega)).trans (grown_below g2 (Nat.le_trans S.bel.size g1.size) (by rintro k ⟨⟩; omega)))
  clear hW1 hW2 t1 g1 o1 g2
  refine ⟨.tuple #[.slice none 0 0, .bool false], ?_, rfl, hB⟩
  simp [settle, results, Try.results29, h8, h9, go_sem, cA, cB]
/-- .. nothing was thrown. -/
theorem open_stands {w W : World} {t : List UInt8} {v : Value} (cA : W.cell? ⟨w.heap.size + 1 + 1, 0, none⟩ = some v) (cB : W.cell? ⟨w.heap.size + 1 + 1 + 1, 0, none⟩ = some (.bool true)) (hO : OwnB W w.heap.size v t) (hB : Below w.heap.size w W)
    (tmps : Array Value) (h8 : tmps[8]?.getD undef = .pointer (some ⟨w.heap.size + 1 + 1, 0, none⟩)) (h9 : tmps[9]?.getD undef = .pointer (some ⟨w.heap.size + 1 + 1 + 1, 0, none⟩)) :
    bodyPostD Try.prog Try.f29 (OpenP w (some t)) Exit.ret { tmps := tmps, defers := [{ target := Target.fn (Fn.func 42) #[.pointer (some ⟨w.heap.size + 1 + 1, 0, none⟩), .pointer (some ⟨w.heap.size + 1 + 1 + 1, 0, none⟩)], args := #[] }] } W := by
  refine leaves_cons (f := 42) (args := #[.pointer (some ⟨w.heap.size + 1 + 1, 0, none⟩), .pointer (some ⟨w.heap.size + 1 + 1 + 1, 0, none⟩)]) (by simp) (by simp [go_sem]) ?_
  refine (catch_idle ⟨w.heap.size + 1 + 1, 0, none⟩ ⟨w.heap.size + 1 + 1 + 1, 0, none⟩ W).mono ?_
  rintro e u' w'' ⟨rfl, rfl, rfl⟩
  refine ⟨.tuple #[v, .bool true], ?_, ⟨v, rfl, hO⟩, hB⟩
  simp [settle, results, Try.results29, h8, h9, go_sem, cA, cB]
set_option maxRecDepth 100000 in
set_option maxHeartbeats 4000000 in
theorem open_go (k n : List UInt8) (hk : k.length = 32) (hn : n.length = 12) (w : World) (A : Option Addr) (q c : Nat) (l : List UInt8) (hq : l.length = q) (hR : RdB w A l) (A2 : Option Addr) (q2 c2 : Nat) (l2 : List UInt8) (hq2 : l2.length = q2) (hc2 : q2 ≤ c2) (hR2 : RdB w A2 l2) (hl : q ≤ 70000) (hl2 : q2 ≤ 70000) :
    Calls Try.prog 29 #[.agg (W8 k), .agg (W8 n), .slice A q c, .slice A2 q2 c2] w (OpenP w (openL k n l l2)) := by
  have TB := Lib.hid (show ByteT Try.prog from ⟨Try.underlying23, by kernel_rfl⟩)
  have HK := Lib.hid hk
  have HN := Lib.hid hn
  have HQ := Lib.hid hq
  have HQ2 := Lib.hid hq2
  have HR := Lib.hid hR
  have HR2 := Lib.hid hR2
  have HC2 := Lib.hid hc2
  have ZK := Lib.hid (show (Try.prog.info? 37).map (·.size) = some (W8 k).size by rw [W8_size, hk]; kernel_rfl)
  have ZN := Lib.hid (show (Try.prog.info? 47).map (·.size) = some (W8 n).size by rw [W8_size, hn]; kernel_rfl)
  have QB := Lib.hid (And.intro hl hl2)
  obtain ⟨i0, hi0, hz0, hz1, hz2⟩ := info_parts (show (Try.prog.info? 5).map (fun i => (i.zero, i.size, i.bytes)) = some (some (.int .u8 0), 1, 1) by kernel_rfl)
  have I0 := Lib.hid hi0
  have I1 := Lib.hid hz1
  have hmf : ∀ (fn : Fn) (first cap : Array Value) (w : World), (Instr.makeFunc fn first cap).run Try.prog w = .ok (.func fn first cap) w := fun _ _ _ _ => rfl
  have q2b : (q2 : Int) ≤ 70000 := by omega
  clear hk hn hq hq2 hR hR2 hl hl2 hc2 hi0 hz0 hz1 hz2
  by_cases h16 : q2 < 16
  · have OE := Lib.hid (show openL k n l l2 = none by rw [openL, if_pos (by rw [HQ2.out]; exact h16)])
    have hD : decide ((16 : Int) ≤ (q2 : Int)) = false := by simp; omega
    rw [OE.out]
    go_enter_defers Try.func29, Try.ntmps29
    go_wp2_with fail
    clear hD
    generalize hw : World.alloc _ _ = w1
    have S := Lib.hid (show OpW w k n w1 by rw [← hw]; exact op_start w k n)
    clear hw
    refine (must_false _).mono ?_
    rintro e w2 ⟨ht, hw⟩
    rw [hw]
    obtain ⟨u, pv, rfl⟩ := ht
    exact open_falls S.out u pv _ rfl rfl
  · have hD : decide ((16 : Int) ≤ (q2 : Int)) = true := by simp; omega
    obtain ⟨at_, hat⟩ : ∃ a, q2 = a + 16 := ⟨q2 - 16, by omega⟩
    have e1 : (q2 : Int) - 16 = (at_ : Int) := by omega
    have AE := Lib.hid hat
    obtain ⟨r, hr⟩ : ∃ r, r = openL k n l l2 := ⟨_, rfl⟩
    rw [← hr]
    have RE := Lib.hid hr
    clear hr hat h16
    go_enter_defers Try.func29, Try.ntmps29
    go_wp2_with fail
    generalize hw : World.alloc _ _ = w1
    have S := Lib.hid (show OpW w k n w1 by rw [← hw]; exact op_start w k n)
    clear hw hD e1
    refine (must_true _).mono ?_
    rintro e w2 ⟨rfl, hw⟩
    rw [hw]
    clear hw w2
    obtain ⟨X, hX⟩ : ∃ X, X = l2.take at_ := ⟨_, rfl⟩
    obtain ⟨T, hT⟩ : ∃ T, T = tagL k n l X := ⟨_, rfl⟩
    obtain ⟨Y, hY⟩ : ∃ Y, Y = l2.drop at_ := ⟨_, rfl⟩
    have XL := Lib.hid (show X.length = at_ by rw [hX, List.length_take, HQ2.out, AE.out]; omega)
    have YL := Lib.hid (show Y.length = 16 by rw [hY, List.length_drop, HQ2.out, AE.out]; omega)
    have TL := Lib.hid (show T.length = 16 by rw [hT, tagL_length])
    have ZT := Lib.hid (show (Try.prog.info? 82).map (·.size) = some (W8 T).size by rw [W8_size, TL.out]; kernel_rfl)
    have RE := Lib.hid (show r = if T = Y then some (streamL k n 1 X) else none by
      rw [RE.out, openL, if_neg (by rw [HQ2.out, AE.out]; omega), hT, hY, hX, show l2.length - 16 = at_ by rw [HQ2.out, AE.out]; omega])
    have RX := Lib.hid (show RdB w A2 X by rw [hX]; exact HR2.out.take _)
    have TE := Lib.hid hT
    have YE := Lib.hid hY
    have ZZ := Lib.hid zero16
    have AB := Lib.hid (show at_ ≤ 70000 by have := QB.out; have := AE.out; omega)
    have AC := Lib.hid (show at_ ≤ c2 by have := HC2.out; have := AE.out; omega)
    clear hX hT hY
    go_upto_region 4 with fail
    go_cut [11] from 19 to 26 (fun v wx => ∃ M, v = .pointer (some ⟨M, 0, none⟩) ∧ wx.heap[M]? = some (.cells (W8 T) 82 (0, 0)) ∧ OpW w k n wx)
    case first =>
      refine wp_region_treeD D89 (by kernel_rfl) (fun W => OpW w k n W) (.q 0 (.q 1 (.q 2 (.q 3 (.q 4 (.q 5 (.q 6 (.two 7 (.t 8 (.t 9 .done)) 8 (.t 7 (.t 9 .done)))))))))) (by kernel_rfl) (by kernel_rfl) (fun _ _ d _ _ hd h => door_put (put_89 hd) h) ?_
      have S := Lib.hid (S.out.keep (Below.refl _ _).drew)
      generalize World.drew w1 = w3 at *
      refine road_q rfl rfl (S.out) (fun W hW => run_load_row 37 (.tmp 4) rfl w.heap.size rfl 37 (W8 k) (0, 0) _ hW.bk Try.underlying37 rfl ZK.out) ?_
      simp only [Act.put, List.setIfInBounds_toArray, List.set_cons_zero, List.set_cons_succ]
      refine road_q rfl rfl (S.out) (fun W hW => run_load_row 47 (.tmp 5) rfl (w.heap.size + 1) rfl 47 (W8 n) (0, 0) _ hW.bn Try.underlying47 rfl ZN.out) ?_
      simp only [Act.put, List.setIfInBounds_toArray, List.set_cons_zero, List.set_cons_succ]
      refine road_q (v := ?_) rfl rfl (S.out) ?_ ?_
      rotate_left
      · intro W hW
        go_simp
        with_reducible rfl
      simp only [Act.put, List.setIfInBounds_toArray, List.set_cons_zero, List.set_cons_succ]
      refine road_q (v := ?_) rfl rfl (S.out) ?_ ?_
      rotate_left
      · intro W hW
        go_simp
        with_reducible rfl
      simp only [Act.put, List.setIfInBounds_toArray, List.set_cons_zero, List.set_cons_succ]
      refine road_q (v := ?_) rfl rfl (S.out) ?_ ?_
      rotate_left
      · intro W hW
        go_simp
        with_reducible rfl
      simp only [Act.put, List.setIfInBounds_toArray, List.set_cons_zero, List.set_cons_succ]
      refine road_q (v := ?_) rfl rfl (S.out) ?_ ?_
      rotate_left
      · intro W hW
        go_simp
        with_reducible rfl
      simp only [Act.put, List.setIfInBounds_toArray, List.set_cons_zero, List.set_cons_succ]
      refine road_q rfl rfl (S.out) (fun W hW => run_cut_max 23 5 (.tmp 22) (.tmp 23) (.tmp 24) rfl Try.underlying23 I0.out I1.out A2 q2 c2 at_ AC.out rfl rfl rfl W) ?_
      simp only [Act.put, List.setIfInBounds_toArray, List.set_cons_zero, List.set_cons_succ]
      refine road_two ?_ ?_
      ·
        refine road_t rfl rfl (fun K hK => ?_)
        go_simp
        refine (tag_any k n HK.out HN.out _ A q c l HQ.out (HR.out.keep S.out.bel) A2 at_ at_ X XL.out (RX.out.keep S.out.bel) (by have := QB.out; omega) (by have := AB.out; omega)).mono ?_
        rw [← TE.out]
        rintro e w3 ⟨rfl, hb⟩
        have S := Lib.hid (S.out.keep hb)
        try have R := Lib.hid (below_block hb (row_lt R.out) R.out)
        clear hb
        refine hK.out _ _ (S.out) ?_
        clear hK K
        refine road_t rfl rfl (fun K hK => ?_)
        go_simp
        rw [← ZZ.out]
        generalize hM : Array.size (World.heap w3) = M
        generalize hw : World.alloc w3 _ = w8
        have MS := Lib.hid (show w.heap.size + 1 + 1 + 1 < M by rw [← hM]; exact S.out.lt)
        have R := Lib.hid (show w8.heap[M]? = some (.cells (W8 Z16) 82 (0, 0)) by rw [← hw]; exact ha_new _ _ _ hM.symm)
        have S := Lib.hid (show OpW w k n w8 by rw [← hw]; exact S.out.keep (below_new _ _))
        clear hM hw
        refine hK.out _ _ (S.out) ?_
        clear hK K
        refine road_t rfl rfl (fun K hK => ?_)
        refine storeW_wp 82 (.tmp 11) (.tmp 26) rfl M (W8 T) rfl rfl _ _ R.out ZT.out (by rw [W8_size, W8_size, TL.out]; rfl) (W8_one _) ?_
        intro w9 hz9 hg9 _
        have R := Lib.hid hz9
        have S := Lib.hid (S.out.grow hg9 MS.out)
        clear hz9 hg9
        refine hK.out _ _ (S.out) ?_
        clear hK K
        refine road_done ?_
        simp only [Act.put]
        go_wp2_with fail
        go_meet
        exact ⟨M, rfl, R.out, S.out⟩
      ·
        refine road_t rfl rfl (fun K hK => ?_)
        go_simp
        rw [← ZZ.out]
        generalize hM : Array.size (World.heap w3) = M
        generalize hw : World.alloc w3 _ = w8
        have MS := Lib.hid (show w.heap.size + 1 + 1 + 1 < M by rw [← hM]; exact S.out.lt)
        have R := Lib.hid (show w8.heap[M]? = some (.cells (W8 Z16) 82 (0, 0)) by rw [← hw]; exact ha_new _ _ _ hM.symm)
        have S := Lib.hid (show OpW w k n w8 by rw [← hw]; exact S.out.keep (below_new _ _))
        clear hM hw
        refine hK.out _ _ (S.out) ?_
        clear hK K
        refine road_t rfl rfl (fun K hK => ?_)
        go_simp
        refine (tag_any k n HK.out HN.out _ A q c l HQ.out (HR.out.keep S.out.bel) A2 at_ at_ X XL.out (RX.out.keep S.out.bel) (by have := QB.out; omega) (by have := AB.out; omega)).mono ?_
        rw [← TE.out]
        rintro e w3 ⟨rfl, hb⟩
        have S := Lib.hid (S.out.keep hb)
        try have R := Lib.hid (below_block hb (row_lt R.out) R.out)
        clear hb
        refine hK.out _ _ (S.out) ?_
        clear hK K
        refine road_t rfl rfl (fun K hK => ?_)
        refine storeW_wp 82 (.tmp 11) (.tmp 26) rfl M (W8 T) rfl rfl _ _ R.out ZT.out (by rw [W8_size, W8_size, TL.out]; rfl) (W8_one _) ?_
        intro w9 hz9 hg9 _
        have R := Lib.hid hz9
        have S := Lib.hid (S.out.grow hg9 MS.out)
        clear hz9 hg9
        refine hK.out _ _ (S.out) ?_
        clear hK K
        refine road_done ?_
        simp only [Act.put]
        go_wp2_with fail
        go_meet
        exact ⟨M, rfl, R.out, S.out⟩
    case rest =>
    obtain ⟨M, rfl, hr, hs⟩ := hcut
    have R := Lib.hid hr
    have S := Lib.hid hs
    clear hr hs
    obtain ⟨A', hX0, hcut, _⟩ := cut_from (P := Try.prog) 23 5 Try.underlying23 I0.out I1.out A2 q2 c2 at_ (by have := AE.out; omega)
    rw [show q2 - at_ = 16 by have := AE.out; omega] at hX0
    have HX := Lib.hid hX0
    have RY := Lib.hid (show RdB w A' Y by rw [YE.out]; exact hcut w l2 HQ2.out HC2.out HR2.out)
    clear hX0 hcut
    go_upto_region 5 with fail
    by_cases hTY : T = Y
    · have hE := Lib.hid (show decide (T = Y) = true from decide_eq_true hTY)
      have RE := Lib.hid (show r = some (streamL k n 1 X) by rw [RE.out, if_pos hTY])
      clear hTY
      refine wp_region_roadD D89 (by kernel_rfl) (fun W => OpW w k n W ∧ W.heap[M]? = some (.cells (W8 T) 82 (0, 0))) [(true, 0), (true, 1), (true, 2), (true, 3), (false, 4), (false, 5)] (by kernel_rfl) (by kernel_rfl) (fun _ _ d _ _ hd h => door_put (put_89 hd) h) ?_
      simp only [List.filterMap_cons, List.filterMap_nil, List.getElem?_toArray, List.getElem?_cons_zero, List.getElem?_cons_succ, Option.map_some]
      have S := Lib.hid (show OpW w k n wc.drew ∧ wc.drew.heap[M]? = some (.cells (W8 T) 82 (0, 0)) from ⟨S.out.keep (Below.refl _ _).drew, R.out⟩)
      refine planG_q (by rfl) (S.out) (fun W hW => run_arr_all 82 (.tmp 11) rfl 16 5 Try.underlying82 I0.out M rfl W) ?_
      simp only [Act.put, List.setIfInBounds_toArray, List.set_cons_zero, List.set_cons_succ]
      refine planG_q (v := ?_) (by rfl) (S.out) ?_ ?_
      rotate_left
      · intro W hW
        go_simp
        with_reducible rfl
      simp only [Act.put, List.setIfInBounds_toArray, List.set_cons_zero, List.set_cons_succ]
      refine planG_q (v := ?_) (by rfl) (S.out) ?_ ?_
      rotate_left
      · intro W hW
        go_simp
        with_reducible rfl
      simp only [Act.put, List.setIfInBounds_toArray, List.set_cons_zero, List.set_cons_succ]
      refine planG_q (by rfl) (S.out) (fun W hW => run_cut_from 23 (.tmp 28) (.tmp 29) rfl Try.underlying23 HX.out rfl rfl W) ?_
      simp only [Act.put, List.setIfInBounds_toArray, List.set_cons_zero, List.set_cons_succ]
      refine planG_t (by rfl) (fun K hK => ?_)
      go_simp
      refine (equal_any _ (some ⟨M, 0, none⟩) 16 16 T TL.out (RdB.row S.out.2) A' 16 (c2 - at_) Y YL.out (RY.out.keep S.out.1.bel) (by omega) (by omega)).mono ?_
      rw [hE.out]
      rintro e w4 ⟨rfl, hb⟩
      have S := Lib.hid (show OpW w k n w4 ∧ w4.heap[M]? = some (.cells (W8 T) 82 (0, 0)) from ⟨S.out.1.keep hb, below_block hb (row_lt S.out.2) S.out.2⟩)
      clear hb
      refine hK.out _ _ (S.out) ?_
      clear hK K
      refine planG_t (by rfl) (fun K hK => ?_)
      go_simp
      refine (must_true _).mono ?_
      rintro e w5 ⟨rfl, hw⟩
      rw [hw]
      clear hw w5
      refine hK.out _ _ (S.out) ?_
      clear hK K
      refine planG_nil ?_
      go_upto_region 6 with fail
      refine wp_region_roadD D89 (by kernel_rfl) (fun W => W.heap[w.heap.size]? = some (.cells (W8 k) 37 (0, 0)) ∧ W.heap[w.heap.size + 1]? = some (.cells (W8 n) 47 (0, 0))) [(true, 0), (true, 1), (true, 2), (true, 3), (true, 4), (true, 5), (false, 6), (false, 7), (false, 8)] (by kernel_rfl) (by kernel_rfl) (fun _ _ d _ _ hd h => door_put (put_89 hd) h) ?_
      simp only [List.filterMap_cons, List.filterMap_nil, List.getElem?_toArray, List.getElem?_cons_zero, List.getElem?_cons_succ, Option.map_some]
      have S := Lib.hid (show OpW w k n w4.drew from S.out.1.keep (Below.refl _ _).drew)
      have C := Lib.hid (And.intro S.out.bk S.out.bn)
      refine planG_q (by rfl) (C.out) (fun W hW => run_load_row 37 (.tmp 4) rfl w.heap.size rfl 37 (W8 k) (0, 0) _ hW.1 Try.underlying37 rfl ZK.out) ?_
      simp only [Act.put, List.setIfInBounds_toArray, List.set_cons_zero, List.set_cons_succ]
      refine planG_q (by rfl) (C.out) (fun W hW => run_load_row 47 (.tmp 5) rfl (w.heap.size + 1) rfl 47 (W8 n) (0, 0) _ hW.2 Try.underlying47 rfl ZN.out) ?_
      simp only [Act.put, List.setIfInBounds_toArray, List.set_cons_zero, List.set_cons_succ]
      refine planG_q (v := ?_) (by rfl) (C.out) ?_ ?_
      rotate_left
      · intro W hW
        go_simp
        with_reducible rfl
      simp only [Act.put, List.setIfInBounds_toArray, List.set_cons_zero, List.set_cons_succ]
      refine planG_q (v := ?_) (by rfl) (C.out) ?_ ?_
      rotate_left
      · intro W hW
        go_simp
        with_reducible rfl
      simp only [Act.put, List.setIfInBounds_toArray, List.set_cons_zero, List.set_cons_succ]
      refine planG_q (v := ?_) (by rfl) (C.out) ?_ ?_
      rotate_left
      · intro W hW
        go_simp
        with_reducible rfl
      simp only [Act.put, List.setIfInBounds_toArray, List.set_cons_zero, List.set_cons_succ]
      refine planG_q (by rfl) (C.out) (fun W hW => run_cut_max 23 5 (.tmp 35) (.tmp 36) (.tmp 37) rfl Try.underlying23 I0.out I1.out A2 q2 c2 at_ AC.out rfl rfl rfl W) ?_
      simp only [Act.put, List.setIfInBounds_toArray, List.set_cons_zero, List.set_cons_succ]
      refine planG_t (by rfl) (fun K hK => ?_)
      go_simp
      have SA := Lib.hid (stream_go k n HK.out HN.out 1 w4.drew A2 at_ X (RX.out.keep S.out.bel) (by rw [XL.out]; exact Nat.le_refl _) (by have := AB.out; have := XL.out; omega))
      rw [XL.out] at SA
      refine SA.out.mono ?_
      obtain ⟨Z, hZ⟩ : ∃ Z, Z = streamL k n 1 X := ⟨_, rfl⟩
      rw [← hZ]
      rw [← hZ] at RE
      rintro e w5 ⟨v, rfl, ho, hb⟩
      obtain ⟨Av, cv, rfl, _⟩ := ho.read
      obtain ⟨zn, hzn⟩ : ∃ z, z = Z.length := ⟨_, rfl⟩
      rw [← hzn] at ho ⊢
      have O := Lib.hid (ho.mono S.out.bel.size)
      have OL := Lib.hid (fun g e => Nat.lt_of_lt_of_le S.out.lt (ho.lt g e).1)
      have S := Lib.hid (S.out.keep hb)
      have C := Lib.hid (And.intro S.out.bk S.out.bn)
      clear hb ho hZ hzn SA
      refine hK.out _ _ (C.out) ?_
      clear hK K
      have ct : w5.cell? ⟨w.heap.size + 1 + 1, 0, none⟩ = some (.slice none 0 0) := row_cell S.out.bt 0 rfl
      have ft := row_free S.out.bt 0
      refine planG_t (by rfl) (fun K hK => ?_)
      go_simp
      obtain ⟨w6, hw6⟩ : ∃ w6, w6 = w5.setCell ⟨w.heap.size + 1 + 1, 0, none⟩ (.slice Av zn cv) := ⟨_, rfl⟩
      rw [← hw6]
      have G6 := Lib.hid (show w5.grownBy w6 (some (w.heap.size + 1 + 1)) by rw [hw6]; exact grown_set (World.grownBy.refl _ _) _ _)
      have T6 := Lib.hid (show w6.heap[w.heap.size + 1 + 1]? = some (.cells #[.slice Av zn cv] 23 (0, 0)) by rw [hw6, heap_setCell_same _ _ _ _ _ _ S.out.bt]; rfl)
      have O6 := Lib.hid (grown_block G6.out (by simp) S.out.bo)
      have C := Lib.hid (And.intro (grown_block G6.out (by simp <;> omega) S.out.bk) (grown_block G6.out (by simp <;> omega) S.out.bn))
      clear hw6 ct ft
      refine hK.out _ _ (C.out) ?_
      clear hK K
      have co : w6.cell? ⟨w.heap.size + 1 + 1 + 1, 0, none⟩ = some (.bool false) := row_cell O6.out 0 rfl
      have fo := row_free O6.out 0
      refine planG_t (by rfl) (fun K hK => ?_)
      go_simp
      obtain ⟨w7, hw7⟩ : ∃ w7, w7 = w6.setCell ⟨w.heap.size + 1 + 1 + 1, 0, none⟩ (.bool true) := ⟨_, rfl⟩
      rw [← hw7]
      have G7 := Lib.hid (show w6.grownBy w7 (some (w.heap.size + 1 + 1 + 1)) by rw [hw7]; exact grown_set (World.grownBy.refl _ _) _ _)
      have T7 := Lib.hid (grown_block G7.out (by simp) T6.out)
      have O7 := Lib.hid (show w7.heap[w.heap.size + 1 + 1 + 1]? = some (.cells #[.bool true] 4 (0, 0)) by rw [hw7, heap_setCell_same _ _ _ _ _ _ O6.out]; rfl)
      have C := Lib.hid (And.intro (grown_block G7.out (by simp <;> omega) C.out.1) (grown_block G7.out (by simp <;> omega) C.out.2))
      clear hw7 co fo
      refine hK.out _ _ (C.out) ?_
      clear hK K
      refine planG_nil ?_
      go_wp2_with fail
      rw [RE.out]
      refine open_stands (row_cell T7.out 0 rfl) (row_cell O7.out 0 rfl) ?_ ?_ _ rfl rfl
      · refine (O.out.grown G6.out ?_).grown G7.out ?_
        · rcases hq : (Value.slice Av zn cv).ownBlock with _ | g
          · exact .inl rfl
          · exact .inr (fun e => by injection e with e; have := OL.out g hq; omega)
        · rcases hq : (Value.slice Av zn cv).ownBlock with _ | g
          · exact .inl rfl
          · exact .inr (fun e => by injection e with e; have := OL.out g hq; omega)
      · exact S.out.bel.trans ((grown_below G6.out S.out.bel.size (by rintro k ⟨⟩; omega)).trans (grown_below G7.out (Nat.le_trans S.out.bel.size G6.out.size) (by rintro k ⟨⟩; omega)))
    · have hE := Lib.hid (show decide (T = Y) = false from decide_eq_false hTY)
      have RE := Lib.hid (show r = none by rw [RE.out, if_neg hTY])
      clear hTY
      refine wp_region_roadD D89 (by kernel_rfl) (fun W => OpW w k n W ∧ W.heap[M]? = some (.cells (W8 T) 82 (0, 0))) [(true, 0), (true, 1), (true, 2), (true, 3), (false, 4), (false, 5)] (by kernel_rfl) (by kernel_rfl) (fun _ _ d _ _ hd h => door_put (put_89 hd) h) ?_
      simp only [List.filterMap_cons, List.filterMap_nil, List.getElem?_toArray, List.getElem?_cons_zero, List.getElem?_cons_succ, Option.map_some]
      have S := Lib.hid (show OpW w k n wc.drew ∧ wc.drew.heap[M]? = some (.cells (W8 T) 82 (0, 0)) from ⟨S.out.keep (Below.refl _ _).drew, R.out⟩)
      refine planG_q (by rfl) (S.out) (fun W hW => run_arr_all 82 (.tmp 11) rfl 16 5 Try.underlying82 I0.out M rfl W) ?_
      simp only [Act.put, List.setIfInBounds_toArray, List.set_cons_zero, List.set_cons_succ]
      refine planG_q (v := ?_) (by rfl) (S.out) ?_ ?_
      rotate_left
      · intro W hW
        go_simp
        with_reducible rfl
      simp only [Act.put, List.setIfInBounds_toArray, List.set_cons_zero, List.set_cons_succ]
      refine planG_q (v := ?_) (by rfl) (S.out) ?_ ?_
      rotate_left
      · intro W hW
        go_simp
        with_reducible rfl
      simp only [Act.put, List.setIfInBounds_toArray, List.set_cons_zero, List.set_cons_succ]
      refine planG_q (by rfl) (S.out) (fun W hW => run_cut_from 23 (.tmp 28) (.tmp 29) rfl Try.underlying23 HX.out rfl rfl W) ?_
      simp only [Act.put, List.setIfInBounds_toArray, List.set_cons_zero, List.set_cons_succ]
      refine planG_t (by rfl) (fun K hK => ?_)
      go_simp
      refine (equal_any _ (some ⟨M, 0, none⟩) 16 16 T TL.out (RdB.row S.out.2) A' 16 (c2 - at_) Y YL.out (RY.out.keep S.out.1.bel) (by omega) (by omega)).mono ?_
      rw [hE.out]
      rintro e w4 ⟨rfl, hb⟩
      have S := Lib.hid (show OpW w k n w4 ∧ w4.heap[M]? = some (.cells (W8 T) 82 (0, 0)) from ⟨S.out.1.keep hb, below_block hb (row_lt S.out.2) S.out.2⟩)
      clear hb
      refine hK.out _ _ (S.out) ?_
      clear hK K
      refine planG_t (by rfl) (fun K hK => ?_)
      go_simp
      refine (must_false _).mono ?_
      rintro e w5 ⟨ht, hw⟩
      rw [hw]
      obtain ⟨u, pv, rfl⟩ := ht
      rw [RE.out]
      exact open_falls S.out.1 u pv _ rfl rfl
theorem open_any (k n : List UInt8) (hk : k.length = 32) (hn : n.length = 12) (w : World) (A : Option Addr) (q c : Nat) (l : List UInt8) (hq : l.length = q) (hR : RdB w A l) (A2 : Option Addr) (q2 c2 : Nat) (l2 : List UInt8) (hq2 : l2.length = q2) (hc2 : q2 ≤ c2) (hR2 : RdB w A2 l2) (hlt : ∀ a, A2 = some a → a.block < w.heap.size) (hl : q ≤ 70000) (hl2 : q2 ≤ 70000) :
    Calls Try.prog 29 #[.agg (W8 k), .agg (W8 n), .slice A q c, .slice A2 q2 c2] w (OpenP w (openL k n l l2)) := open_go k n hk hn w A q c l hq hR A2 q2 c2 l2 hq2 hc2 hR2 hl hl2
end Go.Proofs.Ytldjiigkebkgcaa

/- Two arrays of bytes are told to be the same just if they are. No condition. -/
namespace Go.Proofs.Ytldjiigkebkgcaa
set_option linter.unusedVariables false
set_option linter.unusedSimpArgs false
open Go.RowKit

theorem eqItems8 {P : Program} (w : World) (e : TypeId) (he : P.underlying e = some (.int .u8)) (dd : Nat) (xs ys : List UInt8) : ∀ (is : List Nat), (∀ i ∈ is, i < xs.length ∧ i < ys.length) →
    (Op.eqItems (dd + 1) e 1 (W8 xs) (W8 ys) is).run P w = .ok (is.all fun i => xs.getD i 0 == ys.getD i 0) w
  | [], _ => by simp [Op.eqItems]
  | i :: is, h => by
    have hk : P.plainKey e = true := by simp [Program.plainKey, he]
    obtain ⟨h1, h2⟩ := h i (by simp)
    have ih := eqItems8 w e he dd xs ys is (fun j hj => h j (by simp [hj]))
    have p1 := run_part_plain (P := P) (w := w) hk (xs := W8 xs) (off := i * 1) (v := .int .u8 ((xs.getD i 0).toNat : Int)) (by rw [Nat.mul_one]; exact W8_get xs i h1)
    have p2 := run_part_plain (P := P) (w := w) hk (xs := W8 ys) (off := i * 1) (v := .int .u8 ((ys.getD i 0).toNat : Int)) (by rw [Nat.mul_one]; exact W8_get ys i h2)
    simp only [Op.eqItems, Sem.run_bind, p1, p2, Result.andThen_ok, run_equalIn_int w dd e .u8 .u8 _ _ he, List.all_cons]
    have e1 : (((xs.getD i 0).toNat : Int) == ((ys.getD i 0).toNat : Int)) = (xs.getD i 0 == ys.getD i 0) := by
      by_cases hq : xs.getD i 0 = ys.getD i 0
      · rw [hq]; simp
      · have : (xs.getD i 0).toNat ≠ (ys.getD i 0).toNat := fun h => hq (UInt8.toNat_inj.1 h)
        rw [beq_eq_false_iff_ne.2 hq, beq_eq_false_iff_ne.2 (by omega)]
    rw [e1]
    cases hb : (xs.getD i 0 == ys.getD i 0)
    · simp
    · simp [ih]
theorem eq_arr {P : Program} (w : World) (t e : TypeId) (n : Nat) (ht : P.underlying t = some (.array n e)) (he : P.underlying e = some (.int .u8)) (hc : (P.info? e).map (·.size) = some 1) (xs ys : List UInt8) (hx : xs.length = n) (hy : ys.length = n) :
    (Op.equalIn 10000 t (.agg (W8 xs)) (.agg (W8 ys))).run P w = .ok (decide (xs = ys)) w := by
  cases hi : P.info? e with
  | none => simp [hi] at hc
  | some i =>
    have hcs : P.cellsOf e = 1 := by
      simp only [hi, Option.map_some, Option.some.injEq] at hc
      simp [Program.cellsOf, hi, hc]
    have h := run_equalIn_array w 9999 (W8 xs) (W8 ys) ht hi
    rw [show (10000 : Nat) = 9999 + 1 from rfl, h]
    rw [hcs, eqItems8 w e he 9998 xs ys (List.range n) (fun j hj => by simp at hj; omega)]
    congr 1
    by_cases hq : xs = ys
    · subst hq; simp
    · rw [decide_eq_false hq]
      apply Bool.eq_false_iff.2
      intro hall
      apply hq
      rw [List.all_eq_true] at hall
      apply List.ext_getElem (by omega)
      intro j h1 h2
      have := hall j (by simp; omega)
      simpa [List.getD_eq_getElem?_getD, h1, h2] using this
theorem run_eq_arr {P : Program} {o : Oper} {a : Act} (t t2 : TypeId) (x y : Operand) (ho : o.op = .binOp .eql t x y t2) (e : TypeId) (n : Nat) (ht : P.underlying t = some (.array n e)) (he : P.underlying e = some (.int .u8)) (hc : (P.info? e).map (·.size) = some 1) (hm : P.eqGuardType P.depth t = false) (xs ys : List UInt8)
    (hxs : xs.length = n) (hys : ys.length = n) (hx : a.eval x = .agg (W8 xs)) (hy : a.eval y = .agg (W8 ys)) (W : World) : (execOp a.eval o).run P W = .ok (.value (.bool (decide (xs = ys)))) W := by
  unfold execOp
  simp only [ho, hx, hy, Sem.run_bind, Sem.run_pure, run_eql_struct, run_eqGuard_agg (w := W) _ t x y _ _ hm, eq_arr W t e n ht he hc xs ys hxs hys, Result.andThen_ok]
theorem run_eq_arr_true {P : Program} {o : Oper} {a : Act} (t t2 : TypeId) (x y : Operand) (ho : o.op = .binOp .eql t x y t2) (e : TypeId) (n : Nat) (ht : P.underlying t = some (.array n e)) (he : P.underlying e = some (.int .u8)) (hc : (P.info? e).map (·.size) = some 1) (hm : P.eqGuardType P.depth t = false) (xs ys : List UInt8)
    (hxs : xs.length = n) (hxy : xs = ys) (hx : a.eval x = .agg (W8 xs)) (hy : a.eval y = .agg (W8 ys)) (W : World) : (execOp a.eval o).run P W = .ok (.value (.bool true)) W := by
  have h := run_eq_arr t t2 x y ho e n ht he hc hm xs ys hxs (hxy ▸ hxs) hx hy W
  rw [decide_eq_true hxy] at h
  exact h
theorem run_neq_arr_false {P : Program} {o : Oper} {a : Act} (t t2 : TypeId) (x y : Operand) (ho : o.op = .binOp .neq t x y t2) (e : TypeId) (n : Nat) (ht : P.underlying t = some (.array n e)) (he : P.underlying e = some (.int .u8)) (hc : (P.info? e).map (·.size) = some 1) (hm : P.eqGuardType P.depth t = false) (xs ys : List UInt8)
    (hxs : xs.length = n) (hxy : xs = ys) (hx : a.eval x = .agg (W8 xs)) (hy : a.eval y = .agg (W8 ys)) (W : World) : (execOp a.eval o).run P W = .ok (.value (.bool false)) W := by
  unfold execOp
  simp only [ho, hx, hy, Sem.run_bind, Sem.run_pure, run_neq_struct, run_eqGuard_agg (w := W) _ t x y _ _ hm, eq_arr W t e n ht he hc xs ys hxs (hxy ▸ hxs), Result.andThen_ok, decide_eq_true hxy]
  rfl
end Go.Proofs.Ytldjiigkebkgcaa

/- box.Box: Open. No condition but those each theorem states. -/
namespace Go.Proofs.Ytldjiigkebkgcaa
set_option linter.unusedVariables false
set_option linter.unusedSimpArgs false
open Go.RowKit Go.MapKept
attribute [local go_sem ↓] Go.wp_at_zero Go.wp_at_succ

/-- By whom it was sealed, as it is looked up. -/
def lookM (m : List (List UInt8 × Ent)) (x : List UInt8) : Option Ent := (m.find? fun p => decide (p.1 = x)).map (·.2)
/-- What opens to what. -/
def openS (s : BSt) (k bs x : List UInt8) : Option (List UInt8) :=
  if s.mode = 0 then (if x.length < 28 then none else openL k (x.take 12) bs (x.drop 12))
  else match lookM s.m x with
    | none => none
    | some e => if e.key = k ∧ e.beside = bs then some e.text else none
theorem lookM_none {m : List (List UInt8 × Ent)} {x : List UInt8} (h : ∀ p ∈ m, p.1 ≠ x) : lookM m x = none := by
  simp only [lookM, Option.map_eq_none_iff, List.find?_eq_none, decide_eq_true_eq]
  exact h
/-- No two entries of the map have one key. -/
theorem MapB.one {lo b : Nat} {m : List (List UInt8 × Ent)} {W : World} (h : MapB lo b m W) {i j : Nat} {x : List UInt8} {e e' : Ent} (hi : m[i]? = some (x, e)) (hj : m[j]? = some (x, e')) : i = j := by
  obtain ⟨es, clock, hb, hst, hall⟩ := h.has
  obtain ⟨a, ha, hra⟩ := hall.get i _ hi
  obtain ⟨c, hc, hrc⟩ := hall.get j _ hj
  have hn := hst.2.2
  obtain ⟨hi1, hi2⟩ := List.getElem?_eq_some_iff.mp ha
  obtain ⟨hj1, hj2⟩ := List.getElem?_eq_some_iff.mp hc
  have hk : a.key = c.key := by rw [hra.1, hrc.1]
  have hp := List.pairwise_iff_getElem.mp hn
  have hx : (es.toList.map (·.key))[i]'(by rw [List.length_map]; exact hi1) = (es.toList.map (·.key))[j]'(by rw [List.length_map]; exact hj1) := by rw [List.getElem_map, List.getElem_map, hi2, hj2, hk]
  rcases Nat.lt_trichotomy i j with h1 | h1 | h1
  · exact absurd hx (hp i j _ _ h1)
  · exact h1
  · exact absurd hx.symm (hp j i _ _ h1)
theorem MapB.look {lo b : Nat} {m : List (List UInt8 × Ent)} {W : World} (h : MapB lo b m W) {j : Nat} {x : List UInt8} {e : Ent} (hj : m[j]? = some (x, e)) : lookM m x = some e := by
  cases hf : m.find? fun p => decide (p.1 = x) with
  | none =>
    rw [List.find?_eq_none] at hf
    exact absurd (show (x, e).1 = x from rfl) (by have := hf _ (List.mem_of_getElem? hj); simp at this)
  | some p =>
    obtain ⟨i, hi⟩ := List.getElem?_of_mem (List.mem_of_find?_eq_some hf)
    have hx : p.1 = x := by simpa using List.find?_some hf
    obtain ⟨p1, p2⟩ := p
    simp only at hx
    subst hx
    obtain rfl := h.one hi hj
    rw [hi] at hj
    injection hj with hj
    injection hj with _ hj
    simp [lookM, hf, hj]
theorem eq_arr2 {P : Program} (w : World) (t e : TypeId) (n : Nat) (ht : P.underlying t = some (.array n e)) (he : P.underlying e = some (.int .u8)) (hc : (P.info? e).map (·.size) = some 1) (xs ys : List UInt8) (hx : xs.length = n) (hy : ys.length = n) (dd : Nat) :
    (Op.equalIn (dd + 2) t (.agg (W8 xs)) (.agg (W8 ys))).run P w = .ok (decide (xs = ys)) w := by
  cases hi : P.info? e with
  | none => simp [hi] at hc
  | some i =>
    have hcs : P.cellsOf e = 1 := by
      simp only [hi, Option.map_some, Option.some.injEq] at hc
      simp [Program.cellsOf, hi, hc]
    have h := run_equalIn_array w (dd + 1) (W8 xs) (W8 ys) ht hi
    rw [h]
    rw [hcs, eqItems8 w e he dd xs ys (List.range n) (fun j hj => by simp at hj; omega)]
    congr 1
    by_cases hq : xs = ys
    · subst hq; simp
    · rw [decide_eq_false hq]
      apply Bool.eq_false_iff.2
      intro hall
      apply hq
      rw [List.all_eq_true] at hall
      apply List.ext_getElem (by omega)
      intro j h1 h2
      have := hall j (by simp; omega)
      simpa [List.getD_eq_getElem?_getD, h1, h2] using this
/-- Two of them compared. -/
theorem eq_whoD (k bs k' bs' : List UInt8) (hk : k.length = 32) (hk' : k'.length = 32) (W : World) (dd : Nat) :
    (Op.equalIn (dd + 3) 72 (.agg (WhoL k bs).toArray) (.agg (WhoL k' bs').toArray)).run Try.prog W = .ok (decide (k = k' ∧ bs = bs')) W := by
  have hfs : (Try.prog.fieldsOf 72).toList.map (fun f => (f.name == "_", f.type, f.offset)) = [(false, 37, 0), (false, 9, 32)] := by kernel_rfl
  have ht : Try.prog.underlying 72 = some (.struct (Try.prog.fieldsOf 72)) := by kernel_rfl
  have hp : Try.prog.stoodInHeld 72 = false := by kernel_rfl
  rw [run_equalIn_struct W (dd + 2) _ _ _ ht hp]
  clear ht hp
  generalize (Try.prog.fieldsOf 72).toList = fs at hfs
  obtain ⟨f1, f2, rfl⟩ : ∃ f1 f2, fs = [f1, f2] := by
    rcases fs with _ | ⟨f1, _ | ⟨f2, _ | ⟨f3, fs⟩⟩⟩ <;> simp at hfs
    exact ⟨f1, f2, rfl⟩
  simp only [List.map_cons, List.map_nil, List.cons.injEq, Prod.mk.injEq, and_true] at hfs
  obtain ⟨⟨n1, t1, o1⟩, n2, t2, o2⟩ := hfs
  have n1 : f1.name ≠ "_" := by simpa using n1
  have n2 : f2.name ≠ "_" := by simpa using n2
  have hsz : (Try.prog.info? 37).map (·.size) = some 32 := by kernel_rfl
  obtain ⟨i, hi, hsz⟩ := Option.map_eq_some_iff.1 hsz
  have p1 : ∀ (k bs : List UInt8), k.length = 32 → (part 37 (WhoL k bs).toArray 0).run Try.prog W = .ok (.agg (W8 k)) W := by
    intro k bs hk
    simp [part, isAgg, run_underlying Try.underlying37, sizeOf, typeInfo, hi, hsz]
    rw [WhoL, List.take_append_of_le_length (by rw [B8_length, hk]; exact Nat.le_refl _), List.take_of_length_le (by rw [B8_length, hk]; exact Nat.le_refl _)]
    rfl
  have p2 : ∀ (k bs : List UInt8), k.length = 32 → (part 9 (WhoL k bs).toArray 32).run Try.prog W = .ok (.string (strB bs)) W := by
    intro k bs hk
    have hc := who_bes (bs := bs) hk
    simp only [part, isAgg, Sem.run_bind, run_underlying Try.underlying9, Result.andThen_ok, Sem.run_pure, hc]
    simp
  have q1 := eq_arr2 W 37 5 32 Try.underlying37 Try.underlying5 (by kernel_rfl) k k' hk hk' dd
  have q2 := run_equalIn_string (P := Try.prog) W (dd + 1) 9 (strB bs) (strB bs') Try.underlying9
  have a1 := p1 k bs hk
  have a2 := p1 k' bs' hk'
  have b1 := p2 k bs hk
  have b2 := p2 k' bs' hk'
  clear p1 p2 hsz hi
  unfold Op.eqFields
  rw [if_pos n1, t1, o1, Sem.run_bind, a1, Result.andThen_ok, Sem.run_bind, a2, Result.andThen_ok, Sem.run_bind, q1, Result.andThen_ok]
  by_cases h1 : k = k'
  · rw [decide_eq_true h1]
    unfold Op.eqFields
    simp only [Bool.not_true, Bool.false_eq_true, if_false]
    rw [if_pos n2, t2, o2, Sem.run_bind, b1, Result.andThen_ok, Sem.run_bind, b2, Result.andThen_ok, Sem.run_bind, q2, Result.andThen_ok, strB_beq]
    unfold Op.eqFields
    by_cases h2 : bs = bs' <;> simp [h1, h2]
  · rw [decide_eq_false h1]
    simp [h1]
theorem eq_who (k bs k' bs' : List UInt8) (hk : k.length = 32) (hk' : k'.length = 32) (W : World) :
    (Op.equalIn 10000 72 (.agg (WhoL k bs).toArray) (.agg (WhoL k' bs').toArray)).run Try.prog W = .ok (decide (k = k' ∧ bs = bs')) W := eq_whoD k bs k' bs' hk hk' W 9997
theorem run_neq_who {o : Oper} {a : Act} (t2 : TypeId) (x y : Operand) (ho : o.op = .binOp .neq 72 x y t2) (k bs k' bs' : List UInt8) (hk : k.length = 32) (hk' : k'.length = 32) (hx : a.eval x = .agg (WhoL k bs).toArray) (hy : a.eval y = .agg (WhoL k' bs').toArray) (W : World) :
    (execOp a.eval o).run Try.prog W = .ok (.value (.bool (!decide (k = k' ∧ bs = bs')))) W := by
  have hm : Try.prog.eqGuardType Try.prog.depth 72 = false := by kernel_rfl
  unfold execOp
  simp only [ho, hx, hy, Sem.run_bind, Sem.run_pure, run_neq_struct, run_eqGuard_agg (w := W) _ _ x y _ _ hm, eq_who k bs k' bs' hk hk' W, Result.andThen_ok]
theorem run_load_range {P : Program} {o : Oper} {a : Act} (ty : TypeId) (x : Operand) (ho : o.op = .load ty x) (b off : Nat) (hx : a.eval x = .pointer (some ⟨b, off, none⟩)) (l : List Value) {W : World} (h : W.rangeAt b off l) {d : TypeDesc} (hu : P.underlying ty = some d)
    (hd : d.isRow = true) (hi : (P.info? ty).map (·.size) = some l.length) : (execOp a.eval o).run P W = .ok (.value (.agg l.toArray)) W := by
  unfold execOp
  simp only [ho, hx, Instr.loadAt, Instr.sureAddr, Sem.run_bind, Sem.run_pure, Result.andThen_ok, run_loadVar_mid W b off _ _ _ h hu hd hi]
theorem ent_who {W : World} {M : Nat} {k bs : List UInt8} {A : Option Addr} {n c : Nat} {T : TypeId} {fr : Nat × Nat} (h : W.heap[M]? = some (.cells (EntL k bs A n c).toArray T fr)) : W.rangeAt M 0 (WhoL k bs) := by
  intro j v hj
  refine row_cell h (0 + j) ?_
  have hl : j < (WhoL k bs).length := (List.getElem?_eq_some_iff.1 hj).1
  rw [Nat.zero_add, List.getElem?_toArray, EntL, show B8 k ++ [Value.string (strB bs), .slice A n c] = WhoL k bs ++ [.slice A n c] by simp [WhoL], List.getElem?_append_left hl, hj]
theorem ent_text {k bs : List UInt8} {A : Option Addr} {n c : Nat} (hk : k.length = 32) : (EntL k bs A n c).toArray[33]? = some (.slice A n c) := by
  rw [List.getElem?_toArray, EntL, List.getElem?_append_right (by rw [B8_length, hk]; omega), B8_length, hk]
  rfl
set_option maxRecDepth 100000 in
set_option maxHeartbeats 4000000 in
theorem bopen_real (w0 : World) (g S D b lo : Nat) (s : BSt) (w : World) (h : BoxB w0 g S D b lo s w) (hmo : s.mode = 0) (k bs x : List UInt8) (hk : k.length = 32) (Ab : Option Addr) (qb cb : Nat) (hqb : bs.length = qb) (hRb : RdB w Ab bs) (hb2 : qb ≤ 60000)
    (A : Option Addr) (q c : Nat) (hq : x.length = q) (hc : q ≤ c) (hR : RdB w A x) (hq2 : q ≤ 70000) :
    Calls Try.prog 13 #[.pointer (some ⟨g, 0, none⟩), .agg (W8 k), .slice Ab qb cb, .slice A q c] w (OpenP w (openS s k bs x)) := by
  have H := Lib.hid h
  have HK := Lib.hid hk
  have HB := Lib.hid hqb
  have RB := Lib.hid hRb
  have HB2 := Lib.hid hb2
  have HQ := Lib.hid hq
  have HC := Lib.hid hc
  have HR := Lib.hid hR
  have Q2 := Lib.hid hq2
  have MO := Lib.hid (show (s.mode : Int) = 0 by omega)
  have qbd : (q : Int) ≤ 70000 := by omega
  have ZK := Lib.hid (show (Try.prog.info? 37).map (·.size) = some (W8 k).size by rw [W8_size, hk]; kernel_rfl)
  obtain ⟨i0, hi0, hz0, hz1, hz2⟩ := info_parts (show (Try.prog.info? 5).map (fun i => (i.zero, i.size, i.bytes)) = some (some (.int .u8 0), 1, 1) by kernel_rfl)
  have I0 := Lib.hid hi0
  have I1 := Lib.hid hz1
  obtain ⟨r, hr⟩ : ∃ r, r = openS s k bs x := ⟨_, rfl⟩
  have RH := Lib.hid (show r = if x.length < 28 then none else openL k (x.take 12) bs (x.drop 12) by rw [hr, openS, if_pos hmo])
  rw [← hr]
  clear h hmo hk hqb hRb hb2 hq hc hR hq2 hi0 hz0 hz1 hz2 hr
  go_enter Try.func13, Try.ntmps13
  go_upto_region 1 with fail
  generalize hw1 : World.alloc w _ = w1
  have M1 := Lib.hid (show w1.heap[w.heap.size]? = some (.cells (W8 k) 37 (0, 0)) by rw [← hw1]; exact ha_new _ _ _ rfl)
  have B1 := Lib.hid (show Below w.heap.size w w1 by rw [← hw1]; exact below_new _ _)
  clear hw1
  go_wp2_with fail
  refine (bnone_any w0 g S D b lo s w1 (H.out.keep B1.out)).mono ?_
  rintro e2 wd ⟨rfl, hw⟩
  rw [hw]
  clear hw wd
  have c0 := row_cell (H.out.keep B1.out).row 0 rfl
  rw [MO.out] at c0
  by_cases hlt : q < 28
  · have d1 : decide ((q : Int) < 28) = true := by simp; omega
    have d2 : decide (q < 28) = true := by simp; omega
    have RN := Lib.hid (show r = none by rw [RH.out, if_pos (by rw [HQ.out]; exact hlt)])
    go_wp2_with fail
    go_ret2
    rw [RN.out]
    exact ⟨rfl, B1.out⟩
  · have d1 : decide ((q : Int) < 28) = false := by simp; omega
    have d2 : decide (q < 28) = false := by simp; omega
    have RN := Lib.hid (show r = openL k (x.take 12) bs (x.drop 12) by rw [RH.out, if_neg (by rw [HQ.out]; exact hlt)])
    have Q28 := Lib.hid (show 28 ≤ q by omega)
    obtain ⟨AX, hAX, hRX, hBX⟩ := cut_from (P := Try.prog) 23 5 Try.underlying23 I0.out I1.out A q c 12 (by omega)
    have HX := Lib.hid hAX
    have RX := Lib.hid hRX
    have BX := Lib.hid hBX
    obtain ⟨qA, oA, hA, _⟩ := (HR.out.keep B1.out) 0 (by rw [HQ.out]; omega)
    have N12 := Lib.hid (show (x.take 12).length = 12 by rw [List.length_take, HQ.out]; omega)
    have RG := Lib.hid (show RdB w1 (some ⟨qA, oA, none⟩) (x.take 12) by rw [← hA]; exact (HR.out.keep B1.out).take 12)
    have ZN := Lib.hid (show (Try.prog.info? 47).map (·.size) = some (B8 (x.take 12)).length by rw [B8_length, N12.out]; kernel_rfl)
    have AE := Lib.hid hA
    clear hlt hAX hRX hBX hA
    go_upto_region 6 with fail
    clear c0 d1 d2
    have B := Lib.hid (show Below w1.heap.size w1 w1.drew from (Below.refl _ _).drew)
    refine wp_region_road (fun W => Below w1.heap.size w1 W) [(true, 0), (true, 1), (true, 2), (true, 3), (true, 4), (true, 5), (true, 6), (true, 7), (false, 8), (true, 9), (true, 10), (true, 11), (true, 12)] (by kernel_rfl) (by kernel_rfl) (fun _ _ d _ _ h => by cases d <;> exact h) ?_
    simp only [List.filterMap_cons, List.filterMap_nil, List.getElem?_toArray, List.getElem?_cons_zero, List.getElem?_cons_succ, Option.map_some]
    refine planG_q (by rfl) (B.out) (fun W hW => run_load_row 37 (.tmp 5) rfl w.heap.size rfl 37 (W8 k) (0, 0) _ (below_block hW (row_lt M1.out) M1.out) Try.underlying37 rfl ZK.out) ?_
    simp only [Act.put, List.setIfInBounds_toArray, List.set_cons_zero, List.set_cons_succ]
    refine planG_q (v := ?_) (by rfl) (B.out) ?_ ?_
    rotate_left
    · intro W hW
      go_simp
      with_reducible rfl
    simp only [Act.put, List.setIfInBounds_toArray, List.set_cons_zero, List.set_cons_succ]
    refine planG_q (by rfl) (B.out) (fun W hW => run_cut_to 23 (.tmp 23) (.const (.int .i64 12)) rfl 5 Try.underlying23 I0.out I1.out A q c 12 rfl rfl (by have := Q28.out; have := HC.out; omega) W) ?_
    simp only [Act.put, List.setIfInBounds_toArray, List.set_cons_zero, List.set_cons_succ]
    refine planG_q (by rfl) (B.out) (fun W hW => run_sl2arr 47 (.tmp 24) rfl 12 5 Try.underlying47 A 12 c rfl (Nat.le_refl _) W) ?_
    simp only [Act.put, List.setIfInBounds_toArray, List.set_cons_zero, List.set_cons_succ]
    refine planG_q (by rfl) (B.out) (fun W hW => run_load_bytes 47 (.tmp 25) rfl qA oA (by rw [← AE.out]; rfl) (x.take 12) (rangeB_of (RG.out.keep hW)) Try.underlying47 rfl ZN.out) ?_
    simp only [Act.put, List.setIfInBounds_toArray, List.set_cons_zero, List.set_cons_succ]
    refine planG_q (v := ?_) (by rfl) (B.out) ?_ ?_
    rotate_left
    · intro W hW
      go_simp
      with_reducible rfl
    simp only [Act.put, List.setIfInBounds_toArray, List.set_cons_zero, List.set_cons_succ]
    refine planG_q (v := ?_) (by rfl) (B.out) ?_ ?_
    rotate_left
    · intro W hW
      go_simp
      with_reducible rfl
    simp only [Act.put, List.setIfInBounds_toArray, List.set_cons_zero, List.set_cons_succ]
    refine planG_q (by rfl) (B.out) (fun W hW => run_cut_from 23 (.tmp 28) (.const (.int .i64 12)) rfl Try.underlying23 HX.out rfl rfl W) ?_
    simp only [Act.put, List.setIfInBounds_toArray, List.set_cons_zero, List.set_cons_succ]
    refine planG_t (by rfl) (fun K hK => ?_)
    go_simp
    refine (open_go k (x.take 12) HK.out N12.out w1.drew Ab qb cb bs HB.out ((RB.out.keep B1.out).keep B.out) AX (q - 12) (c - 12) (x.drop 12) (by rw [List.length_drop, HQ.out]) (by have := HC.out; omega) (RX.out _ x HQ.out HC.out ((HR.out.keep B1.out).keep B.out)) (by have := HB2.out; omega) (by have := Q2.out; omega)).mono ?_
    rw [← RN.out]
    rintro e2 w2 ⟨hm2, hb2⟩
    have B2 := Lib.hid (B.out.trans (hb2.mono B.out.size))
    have BW := Lib.hid (show Below w.heap.size w w2 from B1.out.trans (B2.out.mono B1.out.size))
    have MZ := Lib.hid (Nat.le_trans B1.out.size B.out.size)
    clear hb2
    cases r with
    | none =>
      obtain rfl := hm2
      refine hK.out _ _ (B2.out) ?_
      clear hK K
      refine planG_q (v := ?_) (by rfl) (B2.out) ?_ ?_
      rotate_left
      · intro W hW
        go_simp
        with_reducible rfl
      simp only [Act.put, List.setIfInBounds_toArray, List.set_cons_zero, List.set_cons_succ]
      refine planG_q (v := ?_) (by rfl) (B2.out) ?_ ?_
      rotate_left
      · intro W hW
        go_simp
        with_reducible rfl
      simp only [Act.put, List.setIfInBounds_toArray, List.set_cons_zero, List.set_cons_succ]
      refine planG_q (v := ?_) (by rfl) (B2.out) ?_ ?_
      rotate_left
      · intro W hW
        go_simp
        with_reducible rfl
      simp only [Act.put, List.setIfInBounds_toArray, List.set_cons_zero, List.set_cons_succ]
      refine planG_q (v := ?_) (by rfl) (B2.out) ?_ ?_
      rotate_left
      · intro W hW
        go_simp
        with_reducible rfl
      simp only [Act.put, List.setIfInBounds_toArray, List.set_cons_zero, List.set_cons_succ]
      refine planG_nil ?_
      go_wp2_with fail
      go_ret2
      exact ⟨rfl, BW.out⟩
    | some t =>
      obtain ⟨v, rfl, ho⟩ := hm2
      have O := Lib.hid (ho.mono MZ.out)
      clear ho
      refine hK.out _ _ (B2.out) ?_
      clear hK K
      refine planG_q (v := ?_) (by rfl) (B2.out) ?_ ?_
      rotate_left
      · intro W hW
        go_simp
        with_reducible rfl
      simp only [Act.put, List.setIfInBounds_toArray, List.set_cons_zero, List.set_cons_succ]
      refine planG_q (v := ?_) (by rfl) (B2.out) ?_ ?_
      rotate_left
      · intro W hW
        go_simp
        with_reducible rfl
      simp only [Act.put, List.setIfInBounds_toArray, List.set_cons_zero, List.set_cons_succ]
      refine planG_q (v := ?_) (by rfl) (B2.out) ?_ ?_
      rotate_left
      · intro W hW
        go_simp
        with_reducible rfl
      simp only [Act.put, List.setIfInBounds_toArray, List.set_cons_zero, List.set_cons_succ]
      refine planG_q (v := ?_) (by rfl) (B2.out) ?_ ?_
      rotate_left
      · intro W hW
        go_simp
        with_reducible rfl
      simp only [Act.put, List.setIfInBounds_toArray, List.set_cons_zero, List.set_cons_succ]
      refine planG_nil ?_
      go_wp2_with fail
      go_ret2
      exact ⟨⟨v, rfl, O.out⟩, BW.out⟩
set_option maxRecDepth 100000 in
set_option maxHeartbeats 4000000 in
theorem bopen_ideal (w0 : World) (g S D b lo : Nat) (s : BSt) (w : World) (h : BoxB w0 g S D b lo s w) (hmo : s.mode = 1) (k bs x : List UInt8) (hk : k.length = 32) (Ab : Option Addr) (qb cb : Nat) (hqb : bs.length = qb) (hRb : RdB w Ab bs)
    (A : Option Addr) (q c : Nat) (hq : x.length = q) (hR : RdB w A x) (hq2 : q ≤ 100000) (ht : ∀ p ∈ s.m, p.2.text.length ≤ 100000) :
    Calls Try.prog 13 #[.pointer (some ⟨g, 0, none⟩), .agg (W8 k), .slice Ab qb cb, .slice A q c] w (OpenP w (openS s k bs x)) := by
  have H := Lib.hid h
  have HK := Lib.hid hk
  have HB := Lib.hid hqb
  have RB := Lib.hid hRb
  have HQ := Lib.hid hq
  have HR := Lib.hid hR
  have Q2 := Lib.hid hq2
  have MO := Lib.hid (show (s.mode : Int) = 1 by omega)
  have ZK := Lib.hid (show (Try.prog.info? 37).map (·.size) = some (W8 k).size by rw [W8_size, hk]; kernel_rfl)
  obtain ⟨r, hr⟩ : ∃ r, r = openS s k bs x := ⟨_, rfl⟩
  have RH := Lib.hid (show r = match lookM s.m x with | none => none | some e => if e.key = k ∧ e.beside = bs then some e.text else none by rw [hr, openS, if_neg (by omega)])
  rw [← hr]
  have LK : ∃ (e : Ent) (A' : Option Addr) (c' : Nat) (β : Bool), e.key.length = 32 ∧ e.text.length ≤ c' ∧ e.text.length ≤ 100000 ∧ RdB w A' e.text ∧ (β = false → r = none) ∧ (β = true → r = if e.key = k ∧ e.beside = bs then some e.text else none) ∧ ∀ W' : World, W'.heap[b]? = w.heap[b]? → (Instr.lookup 62 (.map (some b)) (.string (strB x)) true).run Try.prog W' = .ok (.tuple #[EntV e.key e.beside A' e.text.length c', .bool β]) W' := by
    rcases mapB_lookup h.map x (by omega) with ⟨h1, h2⟩ | ⟨j, e, A', c', hj, h2, hRe, h32, hlc, _⟩
    · exact ⟨⟨List.replicate 32 0, [], []⟩, none, 0, false, by simp, Nat.le_refl _, by simp, RdB.nil _ _, fun _ => by rw [RH.out, lookM_none h1], fun e => (by cases e), h2⟩
    · exact ⟨e, A', c', true, h32, hlc, ht _ (List.mem_of_getElem? hj), hRe, fun e => (by cases e), fun _ => by rw [RH.out, h.map.look hj], h2⟩
  obtain ⟨e, A', c', β, h32, hlc, hte, hRe, hb0, hb1, hlk⟩ := LK
  have K32 := Lib.hid h32
  have LC := Lib.hid hlc
  have TE := Lib.hid hte
  have RE := Lib.hid hRe
  have R0 := Lib.hid hb0
  have R1 := Lib.hid hb1
  have LKH := Lib.hid hlk
  have ML := Lib.hid h.map.lt
  obtain ⟨nt, hnt⟩ : ∃ nt, nt = e.text.length := ⟨_, rfl⟩
  have NT := Lib.hid hnt.symm
  rw [← hnt] at LC TE LKH
  obtain ⟨cs, hcs⟩ : ∃ cs, cs = (EntL e.key e.beside A' nt c').toArray := ⟨_, rfl⟩
  have CE := Lib.hid hcs
  have CS := Lib.hid (show cs.size = 34 by rw [hcs, EntL_size _ _ _ _ _ h32])
  have CO := Lib.hid (show cs.all (·.oneCell') = true by rw [hcs]; exact EntL_one _ _ _ _ _)
  have LKH := Lib.hid (show ∀ W' : World, W'.heap[b]? = w.heap[b]? → (Instr.lookup 62 (.map (some b)) (.string (strB x)) true).run Try.prog W' = .ok (.tuple #[.agg cs, .bool β]) W' by rw [hcs]; exact LKH.out)
  have ZW := Lib.hid (show ∀ k bs : List UInt8, k.length = 32 → (Try.prog.info? 72).map (·.size) = some (WhoL k bs).length by intro k bs hk; have := WhoL_size k bs hk; rw [List.size_toArray] at this; rw [this]; exact info_who)
  clear h hmo hk hqb hRb hq hR hq2 hr ht h32 hlc hte hRe hb0 hb1 hlk hnt hcs
  go_enter Try.func13, Try.ntmps13
  go_upto_region 1 with fail
  generalize hw1 : World.alloc w _ = w1
  have M1 := Lib.hid (show w1.heap[w.heap.size]? = some (.cells (W8 k) 37 (0, 0)) by rw [← hw1]; exact ha_new _ _ _ rfl)
  have B1 := Lib.hid (show Below w.heap.size w w1 by rw [← hw1]; exact below_new _ _)
  clear hw1
  go_wp2_with fail
  refine (bnone_any w0 g S D b lo s w1 (H.out.keep B1.out)).mono ?_
  rintro e2 wd ⟨rfl, hw⟩
  rw [hw]
  clear hw wd
  have H1 := Lib.hid (H.out.keep B1.out)
  have c0 := row_cell H1.out.row 0 rfl
  rw [MO.out] at c0
  go_upto_region 7 with fail
  clear c0
  have B := Lib.hid (show Below w1.heap.size w1 w1.drew from (Below.refl _ _).drew)
  refine wp_region_road (fun W => Below w1.heap.size w1 W) [(true, 0), (true, 1), (true, 2), (true, 3), (true, 4), (true, 5), (true, 6), (true, 7), (true, 8), (true, 9), (false, 10), (false, 11), (true, 12)] (by kernel_rfl) (by kernel_rfl) (fun _ _ d _ _ h => by cases d <;> exact h) ?_
  simp only [List.filterMap_cons, List.filterMap_nil, List.getElem?_toArray, List.getElem?_cons_zero, List.getElem?_cons_succ, Option.map_some]
  refine planG_q (v := ?_) (by rfl) (B.out) ?_ ?_
  rotate_left
  · intro W hW
    go_simp
    with_reducible rfl
  simp only [Act.put, List.setIfInBounds_toArray, List.set_cons_zero, List.set_cons_succ]
  refine planG_q (v := ?_) (by rfl) (B.out) ?_ ?_
  rotate_left
  · intro W hW
    go_simp
    with_reducible rfl
  simp only [Act.put, List.setIfInBounds_toArray, List.set_cons_zero, List.set_cons_succ]
  refine planG_q (v := ?_) (by rfl) (B.out) ?_ ?_
  rotate_left
  · intro W hW
    go_simp
    with_reducible rfl
  simp only [Act.put, List.setIfInBounds_toArray, List.set_cons_zero, List.set_cons_succ]
  refine planG_q (by rfl) (B.out) (fun W hW => run_cell 62 (.tmp 36) rfl _ Try.underlying62 rfl rfl (row_cell (below_block hW (row_lt H1.out.row) H1.out.row) 2 rfl)) ?_
  simp only [Act.put, List.setIfInBounds_toArray, List.set_cons_zero, List.set_cons_succ]
  refine planG_q (v := ?_) (by rfl) (B.out) ?_ ?_
  rotate_left
  · intro W hW
    go_simp
    with_reducible rfl
  simp only [Act.put, List.setIfInBounds_toArray, List.set_cons_zero, List.set_cons_succ]
  refine planG_q (by rfl) (B.out) (fun W hW => run_str 23 9 (.tmp 38) rfl Try.underlying23 Try.underlying5 Try.underlying9 ((HR.out.keep B1.out).keep hW) q c HQ.out rfl) ?_
  simp only [Act.put, List.setIfInBounds_toArray, List.set_cons_zero, List.set_cons_succ]
  refine planG_q (by rfl) (B.out) (fun W hW => run_lookup2 62 (.tmp 37) (.tmp 39) rfl rfl rfl (LKH.out W ((hW.block b (Nat.lt_of_lt_of_le ML.out B1.out.size)).trans (B1.out.block b ML.out)))) ?_
  simp only [Act.put, List.setIfInBounds_toArray, List.set_cons_zero, List.set_cons_succ]
  refine planG_q (v := ?_) (by rfl) (B.out) ?_ ?_
  rotate_left
  · intro W hW
    go_simp
    with_reducible rfl
  simp only [Act.put, List.setIfInBounds_toArray, List.set_cons_zero, List.set_cons_succ]
  refine planG_q (v := ?_) (by rfl) (B.out) ?_ ?_
  rotate_left
  · intro W hW
    go_simp
    with_reducible rfl
  simp only [Act.put, List.setIfInBounds_toArray, List.set_cons_zero, List.set_cons_succ]
  refine planG_q (v := ?_) (by rfl) (B.out) ?_ ?_
  rotate_left
  · intro W hW
    go_simp
    with_reducible rfl
  simp only [Act.put, List.setIfInBounds_toArray, List.set_cons_zero, List.set_cons_succ]
  refine planG_t (by rfl) (fun K hK => ?_)
  go_simp
  generalize hM : Array.size (World.heap w1) = M
  generalize hw2 : World.drew (World.alloc w1 _) = w2
  have M2 := Lib.hid (show w2.heap[M]? = some (.cells (EntL (List.replicate 32 0) [] none 0 0).toArray 77 (0, 0)) by rw [← hw2]; exact ha_new w1 _ _ hM.symm)
  have B2 := Lib.hid (show Below w1.heap.size w1 w2 by rw [← hw2]; exact (below_new w1 _).trans (Below.refl _ _).drew)
  have ME := Lib.hid hM.symm
  clear hw2 hM
  refine hK.out _ _ (B2.out) ?_
  clear hK K
  refine planG_t (by rfl) (fun K hK => ?_)
  refine storeW_wp 77 (.tmp 10) (.tmp 41) rfl M cs rfl rfl _ _ M2.out (by rw [CS.out]; exact info_ent) (by rw [CS.out]; rfl) CO.out ?_
  intro w3 hr3 hg3 _
  have R3 := Lib.hid hr3
  have B3 := Lib.hid (B2.out.trans (grown_below hg3 B2.out.size (by rintro k ⟨⟩; rw [ME.out]; exact Nat.le_refl _)))
  have BW := Lib.hid (show Below w.heap.size w w3 from B1.out.trans (B3.out.mono B1.out.size))
  have M3 := Lib.hid (below_block B3.out (row_lt M1.out) M1.out)
  clear hr3 hg3
  refine hK.out _ _ (B3.out) ?_
  clear hK K
  refine planG_q (v := ?_) (by rfl) (B3.out) ?_ ?_
  rotate_left
  · intro W hW
    go_simp
    with_reducible rfl
  simp only [Act.put, List.setIfInBounds_toArray, List.set_cons_zero, List.set_cons_succ]
  refine planG_nil ?_
  cases β with
  | false =>
    have RN := Lib.hid (R0.out rfl)
    go_wp2_with fail
    go_ret2
    rw [RN.out]
    exact ⟨rfl, BW.out⟩
  | true =>
    have RN := Lib.hid (R1.out rfl)
    obtain ⟨δ, hδ⟩ : ∃ δ, δ = decide (e.key = k ∧ e.beside = bs) := ⟨_, rfl⟩
    have DE := Lib.hid hδ
    clear hδ
    cases δ with
    | false =>
      have RN := Lib.hid (show r = none by rw [RN.out, if_neg (of_decide_eq_false DE.out.symm)])
      go_upto_region 9 with (first
        | (refine wpList_valg (by rfl) (run_load_range 72 (.tmp 46) rfl M 0 rfl (WhoL e.key e.beside) (ent_who (by rw [← CE.out]; exact R3.out)) Try.underlying72 rfl (ZW.out _ _ K32.out)) ?_)
        | (refine wpList_valg (by rfl) (run_load_row 37 (.tmp 5) rfl w.heap.size rfl 37 (W8 k) (0, 0) _ M3.out Try.underlying37 rfl ZK.out) ?_)
        | (refine wpList_valg (by rfl) (run_str 23 9 (.tmp 49) rfl Try.underlying23 Try.underlying5 Try.underlying9 (RB.out.keep BW.out) qb cb HB.out rfl) ?_)
        | (refine wpList_valg (by rfl) (run_newwho (.tmp 48) (.tmp 50) rfl k bs HK.out rfl rfl _) ?_)
        | (refine wpList_valg (by rfl) (show (execOp _ _).run _ _ = .ok (.value (.bool (!false))) _ by rw [DE.out]; exact run_neq_who _ (.tmp 47) (.tmp 51) rfl e.key e.beside k bs K32.out HK.out rfl rfl _) ?_))
      go_wp2_with fail
      go_ret2
      rw [RN.out]
      exact ⟨rfl, BW.out⟩
    | true =>
      have RN := Lib.hid (show r = some e.text by rw [RN.out, if_pos (of_decide_eq_true DE.out.symm)])
      go_upto_region 10 with (first
        | (refine wpList_valg (by rfl) (run_load_range 72 (.tmp 46) rfl M 0 rfl (WhoL e.key e.beside) (ent_who (by rw [← CE.out]; exact R3.out)) Try.underlying72 rfl (ZW.out _ _ K32.out)) ?_)
        | (refine wpList_valg (by rfl) (run_load_row 37 (.tmp 5) rfl w.heap.size rfl 37 (W8 k) (0, 0) _ M3.out Try.underlying37 rfl ZK.out) ?_)
        | (refine wpList_valg (by rfl) (run_str 23 9 (.tmp 49) rfl Try.underlying23 Try.underlying5 Try.underlying9 (RB.out.keep BW.out) qb cb HB.out rfl) ?_)
        | (refine wpList_valg (by rfl) (run_newwho (.tmp 48) (.tmp 50) rfl k bs HK.out rfl rfl _) ?_)
        | (refine wpList_valg (by rfl) (show (execOp _ _).run _ _ = .ok (.value (.bool (!true))) _ by rw [DE.out]; exact run_neq_who _ (.tmp 47) (.tmp 51) rfl e.key e.beside k bs K32.out HK.out rfl rfl _) ?_))
      have c33 := row_cell R3.out 33 (show cs[33]? = some (.slice A' nt c') by rw [CE.out]; exact ent_text K32.out)
      go_wp2_with fail
      refine (clone_any w3 A' nt c' e.text NT.out (RE.out.keep BW.out) (by have := TE.out; omega)).mono ?_
      rintro e2 w4 ⟨v, rfl, ho, hb⟩
      have O := Lib.hid (ho.mono BW.out.size)
      have BB := Lib.hid (BW.out.trans (hb.mono BW.out.size))
      clear ho hb c33
      go_wp2_with fail
      go_ret2
      rw [RN.out]
      exact ⟨⟨v, rfl, O.out⟩, BB.out⟩
/-- Open, in both modes. -/
theorem bopen_any (w0 : World) (g S D b lo : Nat) (s : BSt) (w : World) (h : BoxB w0 g S D b lo s w) (hmo : s.mode = 0 ∨ s.mode = 1) (k bs x : List UInt8) (hk : k.length = 32) (Ab : Option Addr) (qb cb : Nat) (hqb : bs.length = qb) (hRb : RdB w Ab bs) (hb2 : qb ≤ 60000)
    (A : Option Addr) (q c : Nat) (hq : x.length = q) (hc : q ≤ c) (hR : RdB w A x) (hq2 : q ≤ 70000) (ht : ∀ p ∈ s.m, p.2.text.length ≤ 100000) :
    Calls Try.prog 13 #[.pointer (some ⟨g, 0, none⟩), .agg (W8 k), .slice Ab qb cb, .slice A q c] w (OpenP w (openS s k bs x)) := by
  rcases hmo with h0 | h1
  · exact bopen_real w0 g S D b lo s w h h0 k bs x hk Ab qb cb hqb hRb hb2 A q c hq hc hR hq2
  · exact bopen_ideal w0 g S D b lo s w h h1 k bs x hk Ab qb cb hqb hRb A q c hq hR (by omega) ht
end Go.Proofs.Ytldjiigkebkgcaa

/- Plain laws on a text laid over the key's bytes: twice, the first bytes, from a later block on. No program. -/
namespace Go.Proofs.Ytldjiigkebkgcaa
set_option linter.unusedVariables false
set_option linter.unusedSimpArgs false
open Go.RowKit

theorem streamL_getD (k n : List UInt8) (count : UInt32) (bs : List UInt8) (i : Nat) (hi : i < bs.length) : (streamL k n count bs).getD i 0 = bs.getD i 0 ^^^ keyByte k n count i := by
  rw [List.getD_eq_getElem?_getD, streamL_get _ _ _ _ _ hi]; rfl
theorem streamL_twice (k n : List UInt8) (count : UInt32) (bs : List UInt8) : streamL k n count (streamL k n count bs) = bs := by
  apply List.ext_getElem?
  intro i
  by_cases hi : i < bs.length
  · rw [streamL_get _ _ _ _ _ (by rw [streamL_length]; exact hi), streamL_getD _ _ _ _ _ hi, UInt8.xor_assoc, UInt8.xor_self, UInt8.xor_zero, List.getElem?_eq_getElem hi, List.getD_eq_getElem?_getD, List.getElem?_eq_getElem hi]
    rfl
  · rw [List.getElem?_eq_none (by rw [streamL_length, streamL_length]; omega), List.getElem?_eq_none (by omega)]
theorem streamL_take (k n : List UInt8) (count : UInt32) (bs : List UInt8) (m : Nat) : streamL k n count (bs.take m) = (streamL k n count bs).take m := by
  apply List.ext_getElem?
  intro i
  by_cases hi : i < (bs.take m).length
  · have hi' : i < bs.length ∧ i < m := by rw [List.length_take] at hi; omega
    rw [streamL_get _ _ _ _ _ hi, List.getElem?_take, if_pos hi'.2, streamL_get _ _ _ _ _ hi'.1]
    simp [List.getD_eq_getElem?_getD, List.getElem?_take, hi'.2]
  · rw [List.getElem?_eq_none (by rw [streamL_length]; omega), List.getElem?_eq_none (by rw [List.length_take, streamL_length]; rw [List.length_take] at hi; omega)]
theorem streamL_drop (k n : List UInt8) (count : UInt32) (bs : List UInt8) (q : Nat) : streamL k n (count + UInt32.ofNat q) (bs.drop (64 * q)) = (streamL k n count bs).drop (64 * q) := by
  apply List.ext_getElem?
  intro i
  by_cases hi : i < (bs.drop (64 * q)).length
  · have hi' : 64 * q + i < bs.length := by rw [List.length_drop] at hi; omega
    rw [streamL_get _ _ _ _ _ hi, List.getElem?_drop, streamL_get _ _ _ _ _ hi']
    congr 1
    have e1 : (bs.drop (64 * q)).getD i 0 = bs.getD (64 * q + i) 0 := by simp [List.getD_eq_getElem?_getD, List.getElem?_drop]
    have e2 : keyByte k n (count + UInt32.ofNat q) i = keyByte k n count (64 * q + i) := by
      unfold keyByte
      rw [show (64 * q + i) % 64 = i % 64 by omega, show (64 * q + i) / 64 = q + i / 64 by omega, UInt32.add_assoc]
      congr 3
      simp
    rw [e1, e2]
  · rw [List.getElem?_eq_none (by rw [streamL_length]; omega), List.getElem?_eq_none (by rw [List.length_drop, streamL_length]; rw [List.length_drop] at hi; omega)]
/-- .. its call, the answer told as a slice that is read. -/
theorem stream_read (k n : List UInt8) (hk : k.length = 32) (hn : n.length = 12) (count : UInt32) (w : World) (A : Option Addr) (m c : Nat) (bs : List UInt8) (hm : bs.length = m) (hR : RdB w A bs) (hlc : m ≤ c) (hb : m ≤ 70368744177664)
    (hlt : ∀ a, A = some a → a.block < w.heap.size) :
    Go.Calls Try.prog 32 #[.agg (W8 k), .agg (W8 n), .int .u32 (count.toNat : Int), .slice A m c] w fun e w' =>
      ∃ A' c', e = .returned (.slice A' m c') ∧ RdB w' A' (streamL k n count bs) ∧ m ≤ c' ∧ (∀ a, A' = some a → w.heap.size ≤ a.block ∧ a.block < w'.heap.size) ∧ Below w.heap.size w w' := by
  refine (stream_len k n hk hn count w A m c bs hm hR hlc hb hlt).mono ?_
  rintro e w' ⟨v, rfl, ho, hb⟩
  obtain ⟨A', c', rfl, hr, hl, _, hb2⟩ := ho.read
  rw [streamL_length, hm] at *
  exact ⟨A', c', rfl, hr, hl, hb2, hb⟩
end Go.Proofs.Ytldjiigkebkgcaa

/- box.Box: Seal in both modes; plain facts of what is sealed. No condition but those each theorem states. -/
namespace Go.Proofs.Ytldjiigkebkgcaa
set_option linter.unusedVariables false
set_option linter.unusedSimpArgs false
open Go.RowKit

/-- What is sealed, in both modes. -/
def SealR (s : BSt) (e : Ent) (s' : BSt) (r : Option (List UInt8)) : Prop :=
  (s.mode = 1 ∧ (s', r) = idealL 8 s e) ∨
  (s.mode = 0 ∧ r = some (realL s e.key e.beside e.text) ∧ s'.mode = 0 ∧ s'.F = s.F ∧ s'.u = s.u + 12 ∧ s'.n = s.n + 1 ∧ (∀ y, knownM s'.m y = (knownM s.m y || decide (y = realL s e.key e.beside e.text))) ∧ s'.m.length ≤ s.m.length + 1)
def SealP (w0 : World) (g S D b lo : Nat) (w : World) (s : BSt) (e : Ent) (en : Ending) (w' : World) : Prop :=
  ∃ A m c s' r, en = .returned (.tuple #[.slice A m c, .int .i64 (if r.isSome then 0 else 15)]) ∧ SealR s e s' r ∧ RdB w' A (r.getD []) ∧ (r.getD []).length = m ∧ m ≤ c ∧ (∀ a, A = some a → w.heap.size ≤ a.block ∧ a.block < w'.heap.size) ∧ BoxB w0 g S D b lo s' w' ∧ BoxF g S b w w'
theorem bseal_any (w0 : World) (g S D b lo : Nat) (s : BSt) (w : World) (h : BoxB w0 g S D b lo s w) (hmo : s.mode = 0 ∨ s.mode = 1) (e : Ent) (hk : e.key.length = 32) (Ab : Option Addr) (qb cb : Nat) (hqb : e.beside.length = qb) (hRb : RdB w Ab e.beside) (hb2 : qb ≤ 60000)
    (A : Option Addr) (q c : Nat) (hq : e.text.length = q) (hc : q ≤ c) (hR : RdB w A e.text) (hO : e.text ≠ [] → ∀ a, A = some a → a.block ≠ g ∧ a.block ≠ S ∧ a.block ≠ b)
    (hq2 : q ≤ 60000) (hu : s.u + 8 * (q + 28) ≤ 900000) (hF : s.F.length ≤ 100000) (hm : s.m.length ≤ 10000) (hn : s.n ≤ 100000) (hlo : lo ≤ w.heap.size) :
    Calls Try.prog 11 #[.pointer (some ⟨g, 0, none⟩), .agg (W8 e.key), .slice Ab qb cb, .slice A q c] w (SealP w0 g S D b lo w s e) := by
  rcases hmo with h0 | h1
  · refine (bseal_real w0 g S D b lo s w h h0 e hk Ab qb cb hqb hRb hb2 A q c hq hc hR hO hq2 (by omega) hF hm hn hlo).mono ?_
    rintro en w' ⟨A2, m2, c2, rfl, h1, h2, h3, h4, ⟨m', h5, h6, h7⟩, h8⟩
    exact ⟨A2, m2, c2, { s with u := s.u + 12, m := m', n := s.n + 1 }, some (realL s e.key e.beside e.text), rfl, .inr ⟨h0, rfl, h0, rfl, rfl, rfl, h6, h7⟩, h1, h2, h3, h4, h5, h8⟩
  · refine (bseal_ideal w0 g S D b lo s w h h1 e hk Ab qb cb hqb hRb hb2 A q c hq hc hR hO hq2 hu hF hm hn hlo).mono ?_
    rintro en w' ⟨A2, m2, c2, rfl, h2, h3, h4, h5, h6, h7⟩
    exact ⟨A2, m2, c2, (idealL 8 s e).1, (idealL 8 s e).2, rfl, .inl ⟨h1, rfl⟩, h2, h3, h4, h5, h6, h7⟩
/-- Open, in both modes. -/
theorem bopen_both (w0 : World) (g S D b lo : Nat) (s : BSt) (w : World) (h : BoxB w0 g S D b lo s w) (hmo : s.mode = 0 ∨ s.mode = 1) (k bs x : List UInt8) (hk : k.length = 32) (Ab : Option Addr) (qb cb : Nat) (hqb : bs.length = qb) (hRb : RdB w Ab bs) (hb2 : qb ≤ 60000)
    (A : Option Addr) (q c : Nat) (hq : x.length = q) (hc : q ≤ c) (hR : RdB w A x) (hq2 : q ≤ 70000) (ht : ∀ p ∈ s.m, s.mode = 1 → p.2.text.length ≤ 100000) :
    Calls Try.prog 13 #[.pointer (some ⟨g, 0, none⟩), .agg (W8 k), .slice Ab qb cb, .slice A q c] w (OpenP w (openS s k bs x)) := by
  rcases hmo with h0 | h1
  · exact bopen_real w0 g S D b lo s w h h0 k bs x hk Ab qb cb hqb hRb hb2 A q c hq hc hR hq2
  · exact bopen_ideal w0 g S D b lo s w h h1 k bs x hk Ab qb cb hqb hRb A q c hq hR (by omega) (fun p hp => ht p hp h1)
theorem openL_seal (k n b t : List UInt8) : openL k n b (sealL k n b t) = some t := by
  have hl : (sealL k n b t).length - 16 = (streamL k n 1 t).length := by rw [sealL_length, streamL_length]; omega
  have h1 : (sealL k n b t).take (streamL k n 1 t).length = streamL k n 1 t := by rw [sealL]; simp
  have h2 : (sealL k n b t).drop (streamL k n 1 t).length = tagL k n b (streamL k n 1 t) := by rw [sealL]; simp
  rw [openL, if_neg (by rw [sealL_length]; omega), hl, h1, h2, if_pos rfl, streamL_twice]
/-- Opened by the cipher. -/
theorem open_real (s : BSt) (hs : s.mode = 0) (s0 : BSt) (k bs t : List UInt8) (k2 bs2 : List UInt8) : openS s k2 bs2 (realL s0 k bs t) = openL k2 (tellS s0.F s0.u 12) bs2 (sealL k (tellS s0.F s0.u 12) bs t) := by
  have h1 : (realL s0 k bs t).take 12 = tellS s0.F s0.u 12 := by rw [realL, List.take_append_of_le_length (by rw [tellS_length]; exact Nat.le_refl _), List.take_of_length_le (by rw [tellS_length]; exact Nat.le_refl _)]
  have h2 : (realL s0 k bs t).drop 12 = sealL k (tellS s0.F s0.u 12) bs t := by rw [realL, List.drop_append_of_le_length (by rw [tellS_length]; exact Nat.le_refl _), List.drop_of_length_le (by rw [tellS_length]; exact Nat.le_refl _), List.nil_append]
  rw [openS, if_pos hs, if_neg (by rw [realL_length]; omega), h1, h2]
/-- What does not change, in both modes. -/
theorem idealL_mode (t : Nat) (s : BSt) (e : Ent) : (idealL t s e).1.mode = s.mode ∧ (idealL t s e).1.F = s.F ∧ (idealL t s e).1.u ≤ s.u + t * (e.text.length + 28) ∧ (idealL t s e).1.n ≤ s.n + 1 ∧ (idealL t s e).1.m.length ≤ s.m.length + 1 := by
  induction t generalizing s with
  | zero => simp [idealL]
  | succ t ih =>
    rw [idealL]
    have e1 : (t + 1) * (e.text.length + 28) = t * (e.text.length + 28) + (e.text.length + 28) := Nat.succ_mul _ _
    split
    · obtain ⟨h1, h2, h3, h4, h5⟩ := ih { s with u := s.u + (e.text.length + 28) }
      simp only at h1 h2 h3 h4 h5
      exact ⟨h1, h2, by omega, h4, h5⟩
    · simp only [List.length_append, List.length_cons, List.length_nil]
      exact ⟨trivial, trivial, by omega, by omega, by omega⟩
theorem SealR.mode {s s' : BSt} {e : Ent} {r : Option (List UInt8)} (h : SealR s e s' r) : s'.mode = s.mode ∧ s'.F = s.F ∧ s'.u ≤ s.u + 8 * (e.text.length + 28) ∧ s'.n ≤ s.n + 1 ∧ s'.m.length ≤ s.m.length + 1 := by
  rcases h with ⟨_, h⟩ | ⟨h0, h1, h2, h3, h4, h5, _, h6⟩
  · have h1 : s' = (idealL 8 s e).1 := by rw [← h]
    rw [h1]
    exact idealL_mode 8 s e
  · exact ⟨by omega, h3, by omega, by omega, h6⟩
/-- An ideal box: each try. -/
theorem idealL_some (t : Nat) (s : BSt) (e : Ent) (x : List UInt8) (h : (idealL t s e).2 = some x) : knownM s.m x = false ∧ x.length = e.text.length + 28 ∧ (idealL t s e).1.m = s.m ++ [(x, e)] ∧ (idealL t s e).1.n = s.n + 1 := by
  induction t generalizing s with
  | zero => simp [idealL] at h
  | succ t ih =>
    rw [idealL] at h ⊢
    split at h
    · rename_i hk
      rw [if_pos hk]
      exact ih { s with u := s.u + (e.text.length + 28) } h
    · rename_i hk
      rw [if_neg hk]
      simp only [Option.some.injEq] at h
      subst h
      exact ⟨by simpa using hk, tellS_length _ _ _, rfl, rfl⟩
theorem lookM_append {m : List (List UInt8 × Ent)} {x : List UInt8} {e : Ent} (h : knownM m x = false) : lookM (m ++ [(x, e)]) x = some e := by
  have h1 : m.find? (fun p => decide (p.1 = x)) = none := by
    rw [List.find?_eq_none]
    intro p hp
    simpa using not_known h p hp
  simp [lookM, List.find?_append, h1]
end Go.Proofs.Ytldjiigkebkgcaa

/- A text that is sealed and opened, in both modes, which every statement of the layer asks; and short. No condition but those each theorem states. -/
namespace Go.Proofs.Ytldjiigkebkgcaa
set_option linter.unusedVariables false
set_option linter.unusedSimpArgs false
open Go.RowKit
attribute [local go_sem ↓] Go.wp_at_zero Go.wp_at_succ

set_option maxRecDepth 100000 in
set_option maxHeartbeats 1000000 in
theorem bshort_any (w : World) (A : Option Addr) (n c : Nat) (l : List UInt8) (hn : l.length = n) (hc : n ≤ c) :
    Calls Try.prog 12 #[.slice A n c] w fun e w' => e = .returned (.slice A (l.take 200).length c) ∧ w' = w := by
  obtain ⟨i0, hi, hz0, hz1, hz2⟩ := info_parts (show (Try.prog.info? 5).map (fun i => (i.zero, i.size, i.bytes)) = some (some (.int .u8 0), 1, 1) by kernel_rfl)
  have I0 := Lib.hid hi
  have I2 := Lib.hid hz1
  have HN := Lib.hid hn
  clear hi hz0 hz1 hz2 hn
  go_enter Try.func12, Try.ntmps12
  by_cases h : 200 < n
  · have hD : decide ((200 : Int) < (n : Int)) = true := by simp; omega
    have hcut := cut_to (P := Try.prog) 23 5 Try.underlying23 I0.out I2.out A n c 200 (by omega)
    have e : Hid ((l.take 200).length = 200) := show _ = _ by rw [List.length_take, HN.out]; omega
    go_wp2_with fail
    go_ret
    exact ⟨by rw [e.out]; rfl, rfl⟩
  · have hD : decide ((200 : Int) < (n : Int)) = false := by simp; omega
    have e : Hid ((l.take 200).length = n) := show _ = _ by rw [List.length_take, HN.out]; omega
    go_wp2_with fail
    go_ret
    exact ⟨by rw [e.out]; rfl, rfl⟩
theorem OpenP.yes {w : World} {t : List UInt8} {e : Ending} {w' : World} (h : OpenP w (some t) e w') : (∃ v, e = .returned (.tuple #[v, .bool true]) ∧ OwnB w' w.heap.size v t) ∧ Below w.heap.size w w' := h
theorem OpenP.no {w : World} {e : Ending} {w' : World} (h : OpenP w none e w') : e = .returned (.tuple #[.slice none 0 0, .bool false]) ∧ Below w.heap.size w w' := h
/-- A key of which only the first byte is not zero. -/
def keyK (x : UInt8) : List UInt8 := [x, 0, 0, 0, 0, 0, 0, 0, 0, 0, 0, 0, 0, 0, 0, 0, 0, 0, 0, 0, 0, 0, 0, 0, 0, 0, 0, 0, 0, 0, 0, 0]
theorem one_no : openL (keyK 2) (tellS [] 0 12) [] (sealL (keyK 1) (tellS [] 0 12) [] [97, 98]) = none := by decide +kernel
theorem run_keyK {o : Oper} {a : Act} (y : Operand) (ho : o.op = .build 37 #[(0, y)]) (x : UInt8) (hy : a.eval y = .int .u8 (x.toNat : Int)) (W : World) : (execOp a.eval o).run Try.prog W = .ok (.value (.agg (W8 (keyK x)))) W := by
  have h2 : ∀ (z : Int) (W : World), (Instr.build 37 #[(0, .int .u8 z)]).run Try.prog W = .ok (.agg #[.int .u8 z, .int .u8 0, .int .u8 0, .int .u8 0, .int .u8 0, .int .u8 0, .int .u8 0, .int .u8 0, .int .u8 0, .int .u8 0, .int .u8 0, .int .u8 0, .int .u8 0, .int .u8 0, .int .u8 0, .int .u8 0, .int .u8 0, .int .u8 0, .int .u8 0, .int .u8 0, .int .u8 0, .int .u8 0, .int .u8 0, .int .u8 0, .int .u8 0, .int .u8 0, .int .u8 0, .int .u8 0, .int .u8 0, .int .u8 0, .int .u8 0, .int .u8 0]) W := by
    intro z W
    kernel_rfl
  unfold execOp
  simp only [ho, List.map_toArray, List.map_cons, List.map_nil, hy, Sem.run_bind, h2, Result.andThen_ok, Sem.run_pure]
  rfl
theorem cv_at {w : World} {C : Array Value} (g n c : Nat) (hg : g = w.heap.size) :
    (convert 23 23 (.slice (some ⟨g, 0, none⟩) n c)).run Try.prog (w.alloc (.cells C 5)) = .ok (.slice (some ⟨g, 0, none⟩) n c) (w.alloc (.cells C 5 (C.size, C.size + 1))) := by
  subst hg
  exact Lib.run_convert_bytes_const w 23 5 C n c Try.underlying23 Try.underlying5
/-- What is sealed first, and opened. -/
theorem one_plain (m : Nat) (hm : m = 0 ∨ m = 1) (s' : BSt) (r : Option (List UInt8)) (h : SealR ⟨m, [], 0, [], 0⟩ ⟨keyK 1, [], [97, 98]⟩ s' r) :
    ∃ X, r = some X ∧ X.length = 30 ∧ openS s' (keyK 1) [] X = some [97, 98] ∧ openS s' (keyK 2) [] X = none ∧ (s'.mode = 0 ∨ s'.mode = 1) ∧ ∀ p ∈ s'.m, s'.mode = 1 → p.2.text.length ≤ 100000 := by
  have hmo := h.mode.1
  rcases h with ⟨h1, h⟩ | ⟨h0, h1, h2, _⟩
  · simp only at h1 hmo
    have e1 : idealL 8 ⟨m, [], 0, [], 0⟩ ⟨keyK 1, [], [97, 98]⟩ = (⟨m, [], 30, [(tellS [] 0 30, ⟨keyK 1, [], [97, 98]⟩)], 1⟩, some (tellS [] 0 30)) := by
      simp [idealL, knownM]
    rw [e1] at h
    injection h with ha hb
    have hl : lookM s'.m (tellS [] 0 30) = some ⟨keyK 1, [], [97, 98]⟩ := by rw [ha]; simp [lookM]
    have hs : s'.mode = 1 := by rw [ha]; exact h1
    refine ⟨_, hb, tellS_length _ _ _, ?_, ?_, .inr hs, fun p hp _ => ?_⟩
    · rw [openS, if_neg (by omega), hl]
      simp
    · rw [openS, if_neg (by omega), hl]
      simp [keyK]
    · rw [ha] at hp
      simp only [List.mem_cons, List.mem_nil_iff, or_false] at hp
      rw [hp]
      show ([97, 98] : List UInt8).length ≤ 100000
      decide
  · refine ⟨_, h1, realL_length _ _ _ _, ?_, ?_, .inl h2, fun p hp e => by omega⟩
    · rw [open_real s' h2]
      exact openL_seal _ _ _ _
    · rw [open_real s' h2]
      exact one_no
set_option maxRecDepth 100000 in
set_option maxHeartbeats 4000000 in
theorem boxOne_true (w : World) : Calls Try.prog 10 #[] w fun e w' => e = .returned (.bool true) ∧ Below w.heap.size w w' := by
  obtain ⟨KV, hKV⟩ : ∃ v, v = W8 (keyK 1) := ⟨_, rfl⟩
  obtain ⟨NV, hNV⟩ : ∃ v, v = W8 (keyK 2) := ⟨_, rfl⟩
  have RK := Lib.hid (fun (o : Oper) (a : Act) (ho : o.op = .build 37 #[(0, .const (.int .u8 1))]) W => show (execOp a.eval o).run Try.prog W = .ok (.value (.agg KV)) W by rw [hKV]; exact run_keyK _ ho 1 rfl W)
  have RN := Lib.hid (fun (o : Oper) (a : Act) (ho : o.op = .build 37 #[(0, .const (.int .u8 2))]) W => show (execOp a.eval o).run Try.prog W = .ok (.value (.agg NV)) W by rw [hNV]; exact run_keyK _ ho 2 rfl W)
  have KE := Lib.hid hKV
  have NE := Lib.hid hNV
  clear hKV hNV
  go_enter Try.func10, Try.ntmps10
  go_wp2_with fail
  go_loopw [1] (fun i wr => ∃ m : Nat, m ≤ 2 ∧ i = .int .i64 (m : Int) ∧ Below w.heap.size w wr) (fun i _ => 2 - (intOf i).toNat)
  case atStart => exact ⟨0, by omega, rfl, Below.refl _ _⟩
  case round =>
    obtain ⟨m, hm, rfl, hb⟩ := hrel
    have B := Lib.hid hb
    have M := Lib.hid hm
    clear hb hm
    by_cases hlt : m < 2
    · have hD : decide ((m : Int) < 2) = true := by simp; omega
      have mb : (m : Int) ≤ 1 := by omega
      have M01 := Lib.hid (show m = 0 ∨ m = 1 by omega)
      clear hlt
      go_wp2_with fail
      refine (dnew_any wr none 0 0 [] [] rfl (RdV.nil _ _) .nil (by decide) (by omega)).mono ?_
      rw [show ([] : List (List UInt8)).flatten = [] from rfl]
      rintro e w1 ⟨S, D, rfl, hg, hD1, hD2, hs, hb⟩
      have SW := Lib.hid (SrcW.made B.out hg hD1 hD2 hs hb)
      clear hg hD1 hD2 hs hb
      go_wp2_with fail
      refine (bnew_any w S D [] 0 w1 SW.out m M01.out).mono ?_
      rintro e w2 ⟨g, b, lo, rfl, hbx, hb2, hlo⟩
      have BB := Lib.hid hbx
      have LO := Lib.hid hlo
      clear hbx hb2 hlo
      have h1 := cv_at (w := w2) (C := #[.int .u8 97, .int .u8 98]) w2.heap.size 2 2 rfl
      go_wp2_with (refine wpList_val rfl (RK.out _ _ rfl _) ?_)
      clear h1
      generalize hM : Array.size (World.heap w2) = M1
      generalize hw : World.alloc w2 _ = w3
      have hb3 : Below w2.heap.size w2 w3 := by rw [← hw]; exact below_new _ _
      have R3 := Lib.hid (show RdB w3 (some ⟨M1, 0, none⟩) [97, 98] from RdB.row (g := M1) (l := [97, 98]) (t := 5) (fr := (2, 3)) (by rw [← hw]; exact ha_new w2 _ _ hM.symm))
      have BB3 := Lib.hid (BB.out.keep hb3)
      have OF := Lib.hid (show M1 < w3.heap.size ∧ g < M1 ∧ S < M1 ∧ b < M1 by rw [← hw, ha_size, ← hM]; exact ⟨by omega, row_lt BB.out.row, BB.out.src.lt, BB.out.map.lt⟩)
      have LO3 := Lib.hid (Nat.le_trans LO.out hb3.size)
      clear hM hw hb3
      rw [KE.out]
      refine (bseal_any w g S D b lo _ w3 BB3.out M01.out ⟨keyK 1, [], [97, 98]⟩ rfl none 0 0 rfl (RdB.nil _ _) (by omega) (some ⟨M1, 0, none⟩) 2 2 rfl (Nat.le_refl _) R3.out (by rintro _ a ⟨⟩; have := OF.out; refine ⟨?_, ?_, ?_⟩ <;> (show M1 ≠ _; omega)) (by omega) (by show 0 + 8 * (2 + 28) ≤ 900000; omega) (by show 0 ≤ 100000; omega) (by show 0 ≤ 10000; omega) (by show 0 ≤ 100000; omega) LO3.out).mono ?_
      rw [← KE.out]
      rintro e w4 ⟨Ax, mx, cx, s', r, rfl, hsr, hrx, hlx, hcx, hbx, hbb, hff⟩
      obtain ⟨X, rfl, hX, ho1, ho2, hmo, hte⟩ := one_plain m M01.out s' r hsr
      obtain rfl : mx = 30 := by rw [← hlx]; exact hX
      have RX := Lib.hid (show RdB w4 Ax X from hrx)
      have XL := Lib.hid hX
      have CX := Lib.hid hcx
      have BX := Lib.hid (show ∀ a, Ax = some a → a.block < w4.heap.size from fun a ea => (hbx a ea).2)
      have O1 := Lib.hid ho1
      have O2 := Lib.hid ho2
      have MO := Lib.hid hmo
      have TE := Lib.hid hte
      have BB4 := Lib.hid hbb
      have B4 := Lib.hid (hbb.bel)
      clear hsr hrx hlx hcx hbx hbb hff hX ho1 ho2 hmo hte
      simp only [Option.isSome_some, if_true]
      go_wp2_with (refine wpList_val rfl (RK.out _ _ rfl _) ?_)
      rw [KE.out]
      refine (bopen_both w g S D b lo s' w4 BB4.out MO.out (keyK 1) [] X rfl none 0 0 rfl (RdB.nil _ _) (by omega) Ax 30 cx XL.out CX.out RX.out (by omega) TE.out).mono ?_
      rw [← KE.out, O1.out]
      rintro e w5 hp
      obtain ⟨⟨v, rfl, ho⟩, hb5⟩ := hp.yes
      obtain ⟨At, ct, rfl, hrt, _⟩ := ho.read
      have RT := Lib.hid hrt
      have BB5 := Lib.hid (BB4.out.keep hb5)
      have RX := Lib.hid (RX.out.keep hb5)
      have BX := Lib.hid (show ∀ a, Ax = some a → a.block < w5.heap.size from fun a ea => Nat.lt_of_lt_of_le (BX.out a ea) hb5.size)
      clear hp ho hb5 hrt
      go_wp2_with (refine wpList_val rfl (RN.out _ _ rfl _) ?_)
      rw [NE.out]
      refine (bopen_both w g S D b lo s' w5 BB5.out MO.out (keyK 2) [] X rfl none 0 0 rfl (RdB.nil _ _) (by omega) Ax 30 cx XL.out CX.out RX.out (by omega) TE.out).mono ?_
      rw [← NE.out, O2.out]
      rintro e w6 hp
      obtain ⟨rfl, hb6⟩ := hp.no
      have B6 := Lib.hid (BB5.out.keep hb6).bel
      have RT := Lib.hid (RT.out.keep hb6)
      clear hp hb6
      go_wp2_with (first
        | (refine wpList_valg (by rfl) (run_str 23 9 (.tmp 58) rfl Try.underlying23 Try.underlying5 Try.underlying9 RT.out 2 ct rfl rfl) ?_)
        | (refine wpList_valg (by rfl) (run_neqstr_false 9 9 (.tmp 59) (.const (.string { data := #[97, 98] })) rfl [97, 98] [97, 98] rfl rfl rfl _) ?_))
      go_roundw
      case rel => exact ⟨m + 1, by omega, by go_num, B6.out⟩
      case measure => simp [intOf]; omega
    · have hD : decide ((m : Int) < 2) = false := by simp; omega
      go_wp2_with fail
      go_ret
      exact ⟨rfl, B.out⟩
end Go.Proofs.Ytldjiigkebkgcaa

/- box.Box: two of them side by side. No condition but those each theorem states. -/
namespace Go.Proofs.Ytldjiigkebkgcaa
set_option linter.unusedVariables false
set_option linter.unusedSimpArgs false
open Go.RowKit

theorem Src.same {g D : Nat} {F : List UInt8} {u : Nat} {b : Bool} {W W' : World} (h : Src g D F u b W) (hsz : W.heap.size ≤ W'.heap.size) (hg : W'.heap[g]? = W.heap[g]?) (hD : W'.heap[D]? = W.heap[D]?) : Src g D F u b W' := by
  obtain ⟨A, c, seed, begun, bk, held, blk, h1, h2, h3, h4, h5⟩ := h.has
  refine ⟨A, c, seed, begun, bk, held, blk, hg.trans h1, h2, fun j hj => ?_, fun a e => ⟨(h4 a e).1, Nat.lt_of_lt_of_le (h4 a e).2.1 hsz, (h4 a e).2.2⟩, h5⟩
  obtain ⟨k, o, e, hc⟩ := h3 j hj
  have hk : k = D := (h4 _ e).2.2
  refine ⟨k, o, e, ?_⟩
  rw [← hc]
  simp only [World.cell?, hk, hD]
theorem EntR.boxF {lo g S b : Nat} {W W' : World} {x : MapEntry} {p : List UInt8 × Ent} (h : EntR lo W x p) (hf : BoxF g S b W W') (hl : g < lo ∧ S < lo ∧ b < lo) : EntR lo W' x p := by
  obtain ⟨h1, A, c, h2, h3, h4, h5, h6⟩ := h
  exact ⟨h1, A, c, h2, h3.boxF hf (fun _ a e => ⟨by have := (h6 a e).2; omega, by have := (h6 a e).2; omega, by have := (h6 a e).2; omega⟩), h4, h5, fun a e => ⟨Nat.lt_of_lt_of_le (h6 a e).1 hf.1, (h6 a e).2⟩⟩
/-- Another box than the one that was worked with is as it was. -/
theorem BoxB.other {w0 : World} {g S D b lo g1 S1 b1 : Nat} {s : BSt} {W W' : World} (h : BoxB w0 g S D b lo s W) (hf : BoxF g1 S1 b1 W W') (hb : Below w0.heap.size w0 W')
    (ng : g ≠ g1 ∧ g ≠ S1 ∧ g ≠ b1) (nS : S ≠ g1 ∧ S ≠ S1 ∧ S ≠ b1) (nD : D ≠ g1 ∧ D ≠ S1 ∧ D ≠ b1) (nb : b ≠ g1 ∧ b ≠ S1 ∧ b ≠ b1) (hl : g1 < lo ∧ S1 < lo ∧ b1 < lo) : BoxB w0 g S D b lo s W' := by
  have e1 : ∀ k, k < W.heap.size → k ≠ g1 → k ≠ S1 → k ≠ b1 → W'.heap[k]? = W.heap[k]? := hf.2
  obtain ⟨es, clock, m1, m2, m3⟩ := h.map.has
  exact ⟨hb, h.hg, h.hS, h.hD, h.hb, (e1 g (row_lt h.row) ng.1 ng.2.1 ng.2.2).trans h.row, h.src.same hf.1 (e1 S h.src.lt nS.1 nS.2.1 nS.2.2) (e1 D h.ltD nD.1 nD.2.1 nD.2.2), Nat.lt_of_lt_of_le h.ltD hf.1,
    ⟨⟨es, clock, (e1 b h.map.lt nb.1 nb.2.1 nb.2.2).trans m1, m2, m3.mono fun x p hx => hx.boxF hf hl⟩, h.map.small, h.map.low⟩, h.gS, h.gD, h.gb, h.Sb, h.Db, h.lg, h.lS, h.few⟩
/-- What an empty box will hold may lie later. -/
theorem BoxB.raise {w0 : World} {g S D b lo lo' : Nat} {s : BSt} {W : World} (h : BoxB w0 g S D b lo s W) (hm : s.m = []) (hl : lo ≤ lo') : BoxB w0 g S D b lo' s W := by
  obtain ⟨es, clock, m1, m2, m3⟩ := h.map.has
  have hes : es.toList = [] := by
    rw [hm] at m3
    cases hq : es.toList with
    | nil => rfl
    | cons x xs => rw [hq] at m3; cases m3
  refine ⟨h.bel, h.hg, h.hS, h.hD, h.hb, h.row, h.src, h.ltD, ⟨⟨es, clock, m1, m2, ?_⟩, h.map.small, Nat.lt_of_lt_of_le h.map.low hl⟩, h.gS, h.gD, h.gb, h.Sb, h.Db, Nat.lt_of_lt_of_le h.lg hl, Nat.lt_of_lt_of_le h.lS hl, h.few⟩
  rw [hes, hm]
  exact .nil
/-- The blocks of a box lie below. -/
theorem BoxB.lt {w0 : World} {g S D b lo : Nat} {s : BSt} {W : World} (h : BoxB w0 g S D b lo s W) : g < W.heap.size ∧ S < W.heap.size ∧ D < W.heap.size ∧ b < W.heap.size := ⟨row_lt h.row, h.src.lt, h.ltD, h.map.lt⟩
/-- Seen from an older world. -/
theorem BoxB.rebase {w0 w1 : World} {g S D b lo : Nat} {s : BSt} {W : World} (h : BoxB w1 g S D b lo s W) (hb : Below w0.heap.size w0 w1) : BoxB w0 g S D b lo s W :=
  have z := hb.size
  ⟨hb.trans (h.bel.mono z), Nat.le_trans z h.hg, Nat.le_trans z h.hS, Nat.le_trans z h.hD, Nat.le_trans z h.hb, h.row, h.src, h.ltD, h.map, h.gS, h.gD, h.gb, h.Sb, h.Db, h.lg, h.lS, h.few⟩
theorem SrcW.new {W W' : World} {g D : Nat} {F : List UInt8} (h1 : W.heap.size ≤ g) (h2 : D < W'.heap.size) (h3 : W.heap.size ≤ D) (h4 : Src g D F 0 true W') (h5 : Below W.heap.size W W') : SrcW W g D F 0 W' := ⟨h5, h1, h3, h2, h4⟩
end Go.Proofs.Ytldjiigkebkgcaa

/- How a law's arguments are opened: bytes behind a slice, an array of bytes by value, a number. No condition. -/
namespace Go.Proofs.Ytldjiigkebkgcaa
set_option linter.unusedVariables false
set_option linter.unusedSimpArgs false
open Go.RowKit Go.ChangeShapes Go.WideShapes

theorem list_of_array {α : Type} (a : Array α) : a = a.toList.toArray := by simp
theorem bounds_i64 {z : Int} (h : (Lit.int .i64 z).wf = true) : -9223372036854775808 ≤ z ∧ z ≤ 9223372036854775807 := by
  simp only [Lit.wf, IntKind.min, IntKind.max, IntKind.signed, IntKind.bits, Bool.and_eq_true, decide_eq_true_eq, if_true] at h
  omega
theorem wf_u8_nat {z : Int} (h : (Lit.int .u8 z).wf = true) : ∃ x : UInt8, z = (x.toNat : Int) := by
  have hb := bounds_u8 h
  refine ⟨UInt8.ofNat z.toNat, ?_⟩
  simp
  omega
theorem wf_u32_nat {z : Int} (h : (Lit.int .u32 z).wf = true) : ∃ x : UInt32, z = (x.toNat : Int) := by
  have hb := bounds_u32 h
  refine ⟨UInt32.ofNat z.toNat, ?_⟩
  simp
  omega
theorem wf_u64_nat {z : Int} (h : (Lit.int .u64 z).wf = true) : ∃ x : UInt64, z = (x.toNat : Int) := by
  have hb := bounds_u64 h
  refine ⟨UInt64.ofNat z.toNat, ?_⟩
  simp
  omega
theorem list_u8 : ∀ (zs : List Int), (∀ z ∈ zs, (Lit.int .u8 z).wf = true) → ∃ l : List UInt8, zs = l.map fun x => (x.toNat : Int)
  | [], _ => ⟨[], rfl⟩
  | z :: r, h => by
    obtain ⟨x, hx⟩ := wf_u8_nat (h z (by simp))
    obtain ⟨l, hl⟩ := list_u8 r (fun y hy => h y (by simp [hy]))
    exact ⟨x :: l, by rw [hx, hl]; rfl⟩

section
variable {H : Type} {enc : TypeId × Value → H} {P : Program} {W : World} {b0 : Nat} {sp : Nat → Bool} {held : Bool}
theorem okWide_slice_lt {t e : TypeId} {r : Reach} {base : Nat} {x : Addr} {n c : Nat} (ht : P.underlying t = some (.slice e)) (hv : Value.okWide P W r base t (.slice (some x) n c)) : x.block < W.heap.size := by
  simp only [Value.okWide, ht, Cell.okWide, Cell.ok] at hv
  obtain ⟨_, _, _, _, row, cells, hs, _⟩ := hv
  unfold World.shape? at hs
  rcases Nat.lt_or_ge x.block W.heap.size with h | h
  · exact h
  · rw [Array.getElem?_eq_none h] at hs
    simp at hs
/-- []byte. -/
theorem open_bytes {t e : TypeId} {r : Reach} {base : Nat} {v : Value} {d : DataW H} {p : List MemPlace} (ht : P.underlying t = some (.slice e)) (he : P.underlying e = some (.int .u8)) (hc : P.cellsOf e = 1)
    (hv : Value.okWide P W r base t v) (h : DataW.Trod enc P W b0 sp held t v d p) :
    ∃ A c l, v = .slice A (List.length l) c ∧ RdB W A l ∧ l.length ≤ c ∧ c ≤ 9223372036854775807 ∧ (∀ a, A = some a → a.block < W.heap.size) := by
  obtain ⟨a, len, cap, rfl⟩ := okWide_slice ht hv
  obtain ⟨fuel, hf⟩ := h
  rcases open_ints ht he hc hf with ⟨hcs, _⟩ | ⟨x, l, c, zs, hcs, _, hl, hm, hz, _, hcell, hwz⟩
  · simp [Value.cells] at hcs
    obtain ⟨rfl, rfl, rfl⟩ := hcs
    exact ⟨none, 0, [], rfl, RdB.nil _ _, by simp, by simp, fun a e => by cases e⟩
  · simp [Value.cells] at hcs
    obtain ⟨rfl, rfl, rfl⟩ := hcs
    obtain ⟨l, hl'⟩ := list_u8 (zs.take len) (fun z hzz => hwz z (List.mem_of_mem_take hzz))
    have hlen : len ≤ zs.length := by
      rw [hz]; split
      · exact hl
      · exact Nat.le_refl _
    have hll : l.length = len := by
      have : (zs.take len).length = l.length := by rw [hl']; simp
      rw [List.length_take] at this
      omega
    rcases Nat.eq_zero_or_pos len with h0 | h0
    · obtain rfl : l = [] := List.eq_nil_of_length_eq_zero (by omega)
      subst h0
      by_cases hzl : 0 < zs.length
      · refine ⟨some x, cap, [], rfl, RdB.nil _ _, by simp, by simpa [maxLen] using hm, fun a e => ?_⟩
        cases e
        have := World.block_lt_of_cell? W _ (hcell 0 hzl)
        simpa [Addr.add] using this
      · refine ⟨some x, cap, [], rfl, RdB.nil _ _, by simp, by simpa [maxLen] using hm, fun a e => ?_⟩
        cases e
        exact okWide_slice_lt ht hv
    · have hx : x.spot = none := by
        have := hcell 0 (by omega)
        unfold World.cell? at this
        by_cases hs : x.spot = none
        · exact hs
        · exfalso
          have h1 : ((x.add 0).spot.isSome) = true := by
            simp [Addr.add]
            cases hsp : x.spot with
            | none => exact absurd hsp hs
            | some _ => rfl
          rw [h1] at this
          split at this <;> simp at this
      obtain ⟨bb, oo, ss⟩ := x
      simp at hx
      subst hx
      refine ⟨some ⟨bb, oo, none⟩, cap, l, by rw [hll], fun j hj => ⟨bb, oo, rfl, ?_⟩, by omega, by simpa [maxLen] using hm, fun a e => ?_⟩
      · have := hcell j (by omega)
        rw [add_at] at this
        rw [this]
        congr 2
        have h3 : zs.getD j 0 = (zs.take len).getD j 0 := by
          rw [List.getD_eq_getElem?_getD, List.getD_eq_getElem?_getD, List.getElem?_take, if_pos (by omega)]
        rw [h3, hl', List.getD_eq_getElem?_getD, List.getD_eq_getElem?_getD, List.getElem?_map, List.getElem?_eq_getElem hj]
        rfl
      · cases e
        have := World.block_lt_of_cell? W _ (hcell 0 (by omega))
        simpa [Addr.add] using this
/-- [n]byte, by value. -/
theorem open_barr {t e n : Nat} {r : Reach} {base : Nat} {v : Value} {d : DataW H} {p : List MemPlace} (ht : P.underlying t = some (.array n e)) (he : P.underlying e = some (.int .u8)) (hc : P.cellsOf e = 1) (hct : P.cellsOf t = n)
    (hv : Value.okWide P W r base t v) (h : DataW.Trod enc P W b0 sp held t v d p) : ∃ l : List UInt8, l.length = n ∧ v = .agg (W8 l) := by
  simp only [Value.okWide, ht] at hv
  obtain ⟨cs, rfl, h2, _⟩ := hv
  obtain ⟨fuel, hf⟩ := h
  obtain ⟨xs, m, _, _, _, hxl, hel⟩ := DataW.trod_array ht hf
  have hcs : (Value.agg cs).cells = cs := rfl
  rw [hcs] at hel
  have key : ∀ i, i < n → ∃ x : UInt8, cs.toList[i]? = some (.int .u8 (x.toNat : Int)) := by
    intro i hi
    have := hel i hi
    rw [hc, Nat.mul_one, List.getElem?_eq_getElem (show i < xs.length by omega)] at this
    obtain ⟨z, hz, _, hw⟩ := DataW.trod_int he this
    obtain ⟨x, hx⟩ := wf_u8_nat hw
    refine ⟨x, ?_⟩
    rw [← hx]
    have h3 : (cs.toList.drop i).take 1 = [.int .u8 z] := hz
    have h4 : ((cs.toList.drop i).take 1)[0]? = some (.int .u8 z) := by rw [h3]; rfl
    simpa [List.getElem?_take, List.getElem?_drop] using h4
  refine ⟨cs.toList.map fun v => match v with | .int _ z => UInt8.ofNat z.toNat | _ => 0, by simp [h2, hct], ?_⟩
  rw [W8, List.map_map]
  congr 1
  conv => lhs; rw [list_of_array cs]
  congr 1
  apply List.ext_getElem?
  intro i
  rw [List.getElem?_map]
  by_cases hi : i < n
  · obtain ⟨x, hx⟩ := key i hi
    rw [hx]
    simp
  · rw [List.getElem?_eq_none (by simp [h2, hct]; omega)]
    rfl
end
end Go.Proofs.Ytldjiigkebkgcaa

/- Openers of arguments: rows of integers. No condition. -/
namespace Go.Proofs.Ytldjiigkebkgcaa
set_option linter.unusedVariables false
set_option linter.unusedSimpArgs false
open Go.ChangeShapes Go.WideShapes Go.ChangeAt Go.RowKit
section
variable {H : Type} {enc : TypeId × Value → H} {P : Program} {W : World} {b0 : Nat} {sp : Nat → Bool} {held : Bool}
/-- []int and the like. -/
theorem open_islice {t e : TypeId} {k : IntKind} {r : Reach} {base : Nat} {v : Value} {d : DataW H} {p : List MemPlace} (ht : P.underlying t = some (.slice e)) (he : P.underlying e = some (.int k)) (hc : P.cellsOf e = 1)
    (hv : Value.okWide P W r base t v) (h : DataW.Trod enc P W b0 sp held t v d p) :
    ∃ A c zs, v = .slice A (List.length zs) c ∧ RdV W A (zs.map (Value.int k)) ∧ zs.length ≤ c ∧ c ≤ 9223372036854775807 ∧ (∀ a, A = some a → a.block < W.heap.size) ∧ (∀ z ∈ zs, (Lit.int k z).wf = true) := by
  obtain ⟨a, len, cap, rfl⟩ := okWide_slice ht hv
  obtain ⟨fuel, hf⟩ := h
  rcases open_ints ht he hc hf with ⟨hcs, _⟩ | ⟨x, l, c, zs, hcs, _, hl, hm, hz, _, hcell, hwz⟩
  · simp [Value.cells] at hcs
    obtain ⟨rfl, rfl, rfl⟩ := hcs
    exact ⟨none, 0, [], rfl, RdV.nil _ _, by simp, by simp, (fun a e => by cases e), (fun z hz => by cases hz)⟩
  · simp [Value.cells] at hcs
    obtain ⟨rfl, rfl, rfl⟩ := hcs
    have hlen : len ≤ zs.length := by
      rw [hz]; split
      · exact hl
      · exact Nat.le_refl _
    have hll : (zs.take len).length = len := by rw [List.length_take]; omega
    refine ⟨some x, cap, zs.take len, by rw [hll], ?_, by omega, by simpa [maxLen] using hm, fun a e => ?_, fun z hzz => hwz z (List.mem_of_mem_take hzz)⟩
    · intro j u hj
      have h1 : j < (zs.take len).length := by
        have := (List.getElem?_eq_some_iff.1 hj).1
        simpa using this
      have hx : x.spot = none := by
        have := hcell 0 (by omega)
        unfold World.cell? at this
        by_cases hs : x.spot = none
        · exact hs
        · exfalso
          have h1 : ((x.add 0).spot.isSome) = true := by
            simp [Addr.add]
            cases hsp : x.spot with
            | none => exact absurd hsp hs
            | some _ => rfl
          rw [h1] at this
          split at this <;> simp at this
      obtain ⟨bb, oo, ss⟩ := x
      simp at hx
      subst hx
      refine ⟨bb, oo, rfl, ?_⟩
      have := hcell j (by omega)
      rw [add_at] at this
      rw [this, ← hj, List.getElem?_map, List.getElem?_take, if_pos (by omega), List.getElem?_eq_getElem (by omega), List.getD_eq_getElem?_getD, List.getElem?_eq_getElem (by omega)]
      rfl
    · cases e
      exact okWide_slice_lt ht hv
theorem spot_none {w : World} {a : Addr} {v : Value} (h : w.cell? a = some v) : a.spot = none := by
  unfold World.cell? at h
  cases hs : a.spot with
  | none => rfl
  | some x =>
    exfalso
    have h1 : (a.spot.isSome) = true := by rw [hs]; rfl
    rw [h1] at h
    split at h <;> simp at h
theorem spot_none_zero {w : World} {a : Addr} {v : Value} (h : w.cell? (a.add 0) = some v) : a.spot = none := by
  have h1 : a.add 0 = a := by unfold Addr.add; simp
  rw [h1] at h
  exact spot_none h
/-- [][]byte. -/
theorem open_bytess {t e q : TypeId} {r : Reach} {base : Nat} {v : Value} {d : DataW H} {p : List MemPlace} (ht : P.underlying t = some (.slice e)) (he : P.underlying e = some (.slice q)) (hq : P.underlying q = some (.int .u8)) (ce : P.cellsOf e = 1) (cq : P.cellsOf q = 1)
    (hv : Value.okWide P W r base t v) (h : DataW.Trod enc P W b0 (fun _ => true) held t v d p) :
    ∃ A c vs ls, v = .slice A (List.length vs) c ∧ RdV W A vs ∧ vs.length ≤ c ∧ c ≤ 9223372036854775807 ∧ All2 (SlB W) vs ls ∧ ls.length = vs.length ∧ ∀ l ∈ ls, l.length ≤ 9223372036854775807 := by
  obtain ⟨a, len, cap, rfl⟩ := okWide_slice ht hv
  obtain ⟨fuel, hf⟩ := h
  rcases Go.Deep.open_int_rows ht he hq ce cq hf with ⟨hcs, _⟩ | ⟨x, l, c, A, L, C, Z, hcs, _, hl, hm, _, hrow⟩
  · simp [Value.cells] at hcs
    obtain ⟨rfl, rfl, rfl⟩ := hcs
    exact ⟨none, 0, [], [], rfl, RdV.nil _ _, by simp, by simp, .nil, rfl, by simp⟩
  · simp [Value.cells] at hcs
    obtain ⟨rfl, rfl, rfl⟩ := hcs
    have key : ∀ m, m ≤ len → ∃ ls : List (List UInt8), ls.length = m ∧ All2 (SlB W) ((List.range m).map fun r => Value.slice (A r) (L r) (C r)) ls ∧ ∀ l ∈ ls, l.length ≤ 9223372036854775807 := by
      intro m
      induction m with
      | zero => intro _; exact ⟨[], rfl, .nil, by simp⟩
      | succ m ih =>
        intro hm'
        obtain ⟨ls, hls, hall, hmx⟩ := ih (by omega)
        obtain ⟨hcell, hLC, hCm, hZl, hwf, hnone, hsome⟩ := hrow m (by omega)
        obtain ⟨bs, hbs⟩ := list_u8 ((Z m).take (L m)) (fun z hz => hwf z (List.mem_of_mem_take hz))
        have hbl : bs.length = L m := by
          have : ((Z m).take (L m)).length = bs.length := by rw [hbs]; simp
          rw [List.length_take] at this
          omega
        refine ⟨ls ++ [bs], by simp [hls], ?_, fun l hl => ?_⟩
        rotate_left
        · rcases List.mem_append.1 hl with h | h
          · exact hmx l h
          · obtain rfl : l = bs := by simpa using h
            have : maxLen = 9223372036854775807 := rfl
            omega
        rw [List.range_succ, List.map_append]
        refine hall.snoc ⟨A m, C m, by rw [hbl], by omega, fun j hj => ?_⟩
        rcases hA : A m with _ | a'
        · have := hnone hA; omega
        · obtain ⟨_, hc⟩ := hsome a' hA
          have h1 := hc j (by omega)
          have hs := spot_none_zero (hc 0 (by omega))
          obtain ⟨bb, oo, ss⟩ := a'
          simp at hs
          subst hs
          refine ⟨bb, oo, rfl, ?_⟩
          rw [add_at] at h1
          rw [h1]
          congr 2
          have h3 : (Z m).getD j 0 = ((Z m).take (L m)).getD j 0 := by
            rw [List.getD_eq_getElem?_getD, List.getD_eq_getElem?_getD, List.getElem?_take, if_pos (by omega)]
          rw [h3, hbs, List.getD_eq_getElem?_getD, List.getD_eq_getElem?_getD, List.getElem?_map, List.getElem?_eq_getElem hj]
          rfl
    obtain ⟨ls, hls, hall, hmx⟩ := key len (Nat.le_refl _)
    refine ⟨some x, cap, (List.range len).map fun r => Value.slice (A r) (L r) (C r), ls, by simp, ?_, by simpa using hl, by simpa [maxLen] using hm, hall, by simp [hls], hmx⟩
    intro j v hj
    have hjl : j < len := by
      have := (List.getElem?_eq_some_iff.1 hj).1
      simpa using this
    obtain ⟨hcell, _⟩ := hrow j (by omega)
    have hs := spot_none_zero (hrow 0 (by omega)).1
    obtain ⟨bb, oo, ss⟩ := x
    simp at hs
    subst hs
    rw [List.getElem?_map, List.getElem?_range hjl] at hj
    simp at hj
    subst hj
    refine ⟨bb, oo, rfl, ?_⟩
    rw [add_at] at hcell
    exact hcell
theorem lits_length {k : IntKind} (zs : List Int) : (lits (H := H) k zs).length = zs.length := by simp [lits]
/-- How long a text that came in is at most. -/
theorem len_bytes {t e : TypeId} {k : IntKind} {d : DataW H} {p : List MemPlace} {A : Option Addr} {n c : Nat} (ht : P.underlying t = some (.slice e)) (he : P.underlying e = some (.int k)) (hc : P.cellsOf e = 1) (hbo : 0 < P.bytesOf e)
    (h : DataW.Trod enc P W b0 sp held t (.slice A n c) d p) (hw : ∀ el s, d = .slice el s → (el.length + s.length) * P.bytesOf e ≤ reachBytes) : n ≤ 140737488351232 := by
  obtain ⟨fuel, hf⟩ := h
  rcases open_ints ht he hc hf with ⟨hcs, _⟩ | ⟨x, l, c, zs, hcs, _, hl, hm, hz, hx, _, _⟩
  · simp [Value.cells] at hcs
    omega
  · simp [Value.cells] at hcs
    obtain ⟨rfl, rfl, rfl⟩ := hcs
    have h1 := hw _ _ (congrArg Prod.fst hx)
    rw [lits_length, lits_length] at h1
    have h2 : (List.take n zs).length + (List.drop n zs).length = zs.length := by simp; omega
    have h3 : n ≤ zs.length := by
      rw [hz]; split
      · exact hl
      · exact Nat.le_refl _
    rw [h2] at h1
    have h4 : zs.length ≤ zs.length * P.bytesOf e := Nat.le_mul_of_pos_right _ hbo
    unfold reachBytes at h1
    omega
/-- .. and how many texts. -/
theorem len_bytess {t e q : TypeId} {d : DataW H} {p : List MemPlace} {A : Option Addr} {n c : Nat} (ht : P.underlying t = some (.slice e)) (he : P.underlying e = some (.slice q)) (hq : P.underlying q = some (.int .u8)) (ce : P.cellsOf e = 1) (cq : P.cellsOf q = 1) (hbo : 0 < P.bytesOf e)
    (h : DataW.Trod enc P W b0 (fun _ => true) held t (.slice A n c) d p) (hw : ∀ el s, d = .slice el s → (el.length + s.length) * P.bytesOf e ≤ reachBytes) : n ≤ 140737488351232 := by
  obtain ⟨fuel, hf⟩ := h
  rcases Go.Deep.open_int_rows ht he hq ce cq hf with ⟨hcs, _⟩ | ⟨x, l, c, A', L, C, Z, hcs, _, hl, hm, hx, _⟩
  · simp [Value.cells] at hcs
    omega
  · simp [Value.cells] at hcs
    obtain ⟨rfl, rfl, rfl⟩ := hcs
    have h1 := hw _ _ (congrArg Prod.fst hx)
    rw [List.length_map, List.length_map, List.length_range, List.length_range] at h1
    have h2 : n + (c - n) = c := by omega
    rw [h2] at h1
    have h4 : c ≤ c * P.bytesOf e := Nat.le_mul_of_pos_right _ hbo
    unfold reachBytes at h1
    omega
end
end Go.Proofs.Ytldjiigkebkgcaa

/- Openers of arguments: rows of structs of two whole numbers, a byte and two byte slices. No condition. -/
namespace Go.Proofs.Ytldjiigkebkgcaa
set_option linter.unusedVariables false
set_option linter.unusedSimpArgs false
open Go.ChangeShapes Go.WideShapes Go.ChangeAt Go.RowKit Go.Deep
/-- Such a struct, and what its slices hold. -/
structure BAct where
  kind : Int
  n : Int
  key : UInt8
  A1 : Option Addr
  c1 : Nat
  l1 : List UInt8
  A2 : Option Addr
  c2 : Nat
  l2 : List UInt8
def RowA (z : BAct) : List Value := [.int .i64 z.kind, .int .i64 z.n, .int .u8 (z.key.toNat : Int), .slice z.A1 z.l1.length z.c1, .slice z.A2 z.l2.length z.c2]
def OkA (W : World) (z : BAct) : Prop := (RdB W z.A1 z.l1 ∧ z.l1.length ≤ z.c1) ∧ (RdB W z.A2 z.l2 ∧ z.l2.length ≤ z.c2) ∧ (-9223372036854775808 ≤ z.kind ∧ z.kind ≤ 9223372036854775807) ∧ (-9223372036854775808 ≤ z.n ∧ z.n ≤ 9223372036854775807)
/-- A row of them. -/
def RdA (W : World) (A : Option Addr) (zs : List BAct) : Prop := ∀ j z, zs[j]? = some z → OkA W z ∧ ∃ b o, A = some ⟨b, o, none⟩ ∧ W.rangeAt b (o + j * 5) (RowA z)
theorem OkA.keep {W W' : World} {z : BAct} (h : OkA W z) (hb : Below W.heap.size W W') : OkA W' z := ⟨⟨h.1.1.keep hb, h.1.2⟩, ⟨h.2.1.1.keep hb, h.2.1.2⟩, h.2.2⟩
theorem RdA.keep {W W' : World} {A : Option Addr} {zs : List BAct} (h : RdA W A zs) (hb : Below W.heap.size W W') : RdA W' A zs := by
  intro j z hj
  obtain ⟨h1, b, o, e, hr⟩ := h j z hj
  exact ⟨h1.keep hb, b, o, e, fun i v hi => (grown_of_below hb).cell (hr i v hi) (fun er => by cases er)⟩
section
variable {H : Type} {enc : TypeId × Value → H} {P : Program} {W : World} {b0 : Nat} {sp : Nat → Bool} {held : Bool}
/-- A slice of bytes that stands in a cell. -/
theorem open_cell_bytes {t e : TypeId} {v : Value} {n : Nat} {x : DataW H × List MemPlace} (ht : P.underlying t = some (.slice e)) (he : P.underlying e = some (.int .u8)) (hc : P.cellsOf e = 1)
    (h : DataW.trod enc P W b0 sp held n t [v] = some x) : ∃ A c l, v = .slice A (List.length l) c ∧ RdB W A l ∧ l.length ≤ c := by
  rcases open_ints ht he hc h with ⟨hcs, _⟩ | ⟨a, len, cap, zs, hcs, _, hl, hm, hz, _, hcell, hwz⟩
  · simp only [List.cons.injEq, and_true] at hcs
    subst hcs
    exact ⟨none, 0, [], rfl, RdB.nil _ _, by simp⟩
  · simp only [List.cons.injEq, and_true] at hcs
    subst hcs
    obtain ⟨l, hl'⟩ := list_u8 (zs.take len) (fun z hzz => hwz z (List.mem_of_mem_take hzz))
    have hlen : len ≤ zs.length := by
      rw [hz]; split
      · exact hl
      · exact Nat.le_refl _
    have hll : l.length = len := by
      have : (zs.take len).length = l.length := by rw [hl']; simp
      rw [List.length_take] at this
      omega
    refine ⟨some a, cap, l, by rw [hll], fun j hj => ?_, by omega⟩
    have h1 := hcell j (by omega)
    have hs := spot_none_zero (hcell 0 (by omega))
    obtain ⟨bb, oo, ss⟩ := a
    simp at hs
    subst hs
    refine ⟨bb, oo, rfl, ?_⟩
    rw [add_at] at h1
    rw [h1]
    congr 2
    have h3 : zs.getD j 0 = (zs.take len).getD j 0 := by
      rw [List.getD_eq_getElem?_getD, List.getD_eq_getElem?_getD, List.getElem?_take, if_pos (by omega)]
    rw [h3, hl', List.getD_eq_getElem?_getD, List.getD_eq_getElem?_getD, List.getElem?_map, List.getElem?_eq_getElem hj]
    rfl
theorem open_bacts {t e eb : TypeId} {f0 f1 f2 f3 f4 : Field} {r : Reach} {base : Nat} {v : Value} {d : DataW H} {p : List MemPlace} (ht : P.underlying t = some (.slice e)) (he : P.underlying e = some (.struct #[f0, f1, f2, f3, f4])) (ce : P.cellsOf e = 5)
    (ho : f0.offset = 0 ∧ f1.offset = 1 ∧ f2.offset = 2 ∧ f3.offset = 3 ∧ f4.offset = 4) (hc : P.cellsOf f0.type = 1 ∧ P.cellsOf f1.type = 1 ∧ P.cellsOf f2.type = 1 ∧ P.cellsOf f3.type = 1 ∧ P.cellsOf f4.type = 1)
    (h0 : P.underlying f0.type = some (.int .i64)) (h1 : P.underlying f1.type = some (.int .i64)) (h2 : P.underlying f2.type = some (.int .u8)) (h3 : P.underlying f3.type = some (.slice eb)) (h4 : P.underlying f4.type = some (.slice eb)) (hb : P.underlying eb = some (.int .u8)) (hcb : P.cellsOf eb = 1)
    (hv : Value.okWide P W r base t v) (h : DataW.Trod enc P W b0 sp held t v d p) :
    ∃ A c zs, v = .slice A (List.length zs) c ∧ RdA W A zs ∧ zs.length ≤ c := by
  obtain ⟨a, len, cap, rfl⟩ := okWide_slice ht hv
  obtain ⟨fuel, hf⟩ := h
  rcases Go.Deep.open_slice ht hf with ⟨hcs, _⟩ | ⟨x, l, c, m, n, D, Pl, hcs, _, hl, hm, hmm, _, hrow⟩
  · simp [Value.cells] at hcs
    obtain ⟨rfl, rfl, rfl⟩ := hcs
    exact ⟨none, 0, [], rfl, (fun j z hj => by simp at hj), by simp⟩
  · simp [Value.cells] at hcs
    obtain ⟨rfl, rfl, rfl⟩ := hcs
    have hlm : len ≤ m := by rw [hmm]; split <;> omega
    obtain ⟨o0, o1, o2, o3, o4⟩ := ho
    obtain ⟨c0, c1, c2, c3, c4⟩ := hc
    have hx : 0 < len → x.spot = none := by
      intro h0
      obtain ⟨cs', g1, _⟩ := hrow 0 (by omega)
      rw [ce] at g1
      obtain ⟨_, hlen, hcell⟩ := World.cells?_some g1
      have e0 := hcell 0 (by omega)
      rw [Nat.zero_mul] at e0
      have ea : (x.add 0).add 0 = x := by unfold Addr.add; simp
      rw [ea, List.getElem?_eq_getElem (by omega)] at e0
      exact spot_none e0
    have each : ∀ i, i < len → ∃ z : BAct, OkA W z ∧ ∃ b o, some x = some (⟨b, o, none⟩ : Addr) ∧ W.rangeAt b (o + i * 5) (RowA z) := by
      intro i hi
      obtain ⟨cs', g1, g2⟩ := hrow i (by omega)
      rw [ce] at g1
      obtain ⟨_, hlen, hcell⟩ := World.cells?_some g1
      obtain ⟨xs, k, hk, hxy, _, hxl, hfl⟩ := DataW.trod_struct he g2
      match xs, hxl, cs', hlen with
      | [y0, y1, y2, y3, y4], _, [v0, v1, v2, v3, v4], _ =>
        have t0 := hfl 0 f0 rfl
        have t1 := hfl 1 f1 rfl
        have t2 := hfl 2 f2 rfl
        have t3 := hfl 3 f3 rfl
        have t4 := hfl 4 f4 rfl
        simp [o0, o1, o2, o3, o4, c0, c1, c2, c3, c4] at t0 t1 t2 t3 t4
        obtain ⟨z0, hz0, _, w0⟩ := DataW.trod_int h0 t0
        obtain ⟨z1, hz1, _, w1⟩ := DataW.trod_int h1 t1
        obtain ⟨z2, hz2, _, w2⟩ := DataW.trod_int h2 t2
        obtain ⟨A3, k3, l3, hz3, r3, n3⟩ := open_cell_bytes h3 hb hcb t3
        obtain ⟨A4, k4, l4, hz4, r4, n4⟩ := open_cell_bytes h4 hb hcb t4
        obtain ⟨u2, hu2⟩ := wf_u8_nat w2
        simp only [List.cons.injEq, and_true] at hz0 hz1 hz2
        have hs := hx (by omega)
        obtain ⟨bb, oo, ss⟩ := x
        simp only at hs
        subst hs
        refine ⟨⟨z0, z1, u2, A3, k3, l3, A4, k4, l4⟩, ⟨⟨r3, n3⟩, ⟨r4, n4⟩, bounds_i64 w0, bounds_i64 w1⟩, bb, oo, rfl, fun j v hj => ?_⟩
        have hj5 : j < 5 := (List.getElem?_eq_some_iff.1 hj).1
        have hcj := hcell j hj5
        rw [add_at, add_at] at hcj
        rw [hcj, ← hj, hz0, hz1, hz2, hz3, hz4, hu2]
        rfl
    have key : ∀ q, q ≤ len → ∃ zs : List BAct, zs.length = q ∧ RdA W (some x) zs := by
      intro q
      induction q with
      | zero => intro _; exact ⟨[], rfl, (fun j z hj => by simp at hj)⟩
      | succ q ih =>
        intro hq
        obtain ⟨zs, hzs, hrd⟩ := ih (by omega)
        obtain ⟨z, hz⟩ := each q (by omega)
        refine ⟨zs ++ [z], by simp [hzs], fun j y hj => ?_⟩
        by_cases hlt : j < zs.length
        · rw [List.getElem?_append_left hlt] at hj
          exact hrd j y hj
        · have hj2 : j = q := by
            have := (List.getElem?_eq_some_iff.1 hj).1
            simp at this
            omega
          subst hj2
          rw [List.getElem?_append_right (by omega), hzs] at hj
          simp at hj
          subst hj
          exact hz
    obtain ⟨zs, hzs, hrd⟩ := key len (Nat.le_refl _)
    exact ⟨some x, cap, zs, by rw [hzs], hrd, by rw [hzs]; exact hl⟩
end
end Go.Proofs.Ytldjiigkebkgcaa

/- Words for the walks of the laws with steps; two boxes in lockstep. No condition but those each theorem states. -/
namespace Go.Proofs.Ytldjiigkebkgcaa
set_option linter.unusedVariables false
set_option linter.unusedSimpArgs false
open Go.RowKit

/-- The address of an element of a slice, the elements of sz cells each. -/
theorem run_iaddr_slk {P : Program} {o : Oper} {a : Act} (t : TypeId) (x i : Operand) (ho : o.op = .indexAddr t x i) (e : Nat) (ht : P.underlying t = some (.slice e)) (sz : Nat) (hi : (P.info? e).map (·.size) = some sz)
    (b off n c j : Nat) (hj : j < n) (k : IntKind) (z : Int) (hz : z = (j : Int)) (hx : a.eval x = .slice (some ⟨b, off, none⟩) n c) (hii : a.eval i = .int k z) (W : World) : (execOp a.eval o).run P W = .ok (.value (.pointer (some ⟨b, off + j * sz, none⟩))) W := by
  subst hz
  obtain ⟨ti, hti, hsz⟩ := Option.map_eq_some_iff.1 hi
  have hel : P.elem t = e := by simp [Program.elem, ht]
  have h := run_indexAt_slice W t ⟨b, off, none⟩ n c k (j : Int) (P := P) (by rw [hel]; exact ht)
  unfold execOp
  simp only [ho, hx, hii, Sem.run_bind, Sem.run_pure, h, hel]
  rw [if_pos ⟨by omega, by omega⟩]
  simp [sizeOf, typeInfo, hti, hsz, Result.andThen, add_at]
/-- A key of which only the first two bytes are not zero. -/
def keyK2 (x y : UInt8) : List UInt8 := [x, y, 0, 0, 0, 0, 0, 0, 0, 0, 0, 0, 0, 0, 0, 0, 0, 0, 0, 0, 0, 0, 0, 0, 0, 0, 0, 0, 0, 0, 0, 0]
theorem run_keyK2 {o : Oper} {a : Act} (u v : Operand) (ho : o.op = .build 37 #[(0, u), (1, v)]) (x y : UInt8) (hu : a.eval u = .int .u8 (x.toNat : Int)) (hv : a.eval v = .int .u8 (y.toNat : Int)) (W : World) : (execOp a.eval o).run Try.prog W = .ok (.value (.agg (W8 (keyK2 x y)))) W := by
  have h2 : ∀ (z y : Int) (W : World), (Instr.build 37 #[(0, .int .u8 z), (1, .int .u8 y)]).run Try.prog W = .ok (.agg #[.int .u8 z, .int .u8 y, .int .u8 0, .int .u8 0, .int .u8 0, .int .u8 0, .int .u8 0, .int .u8 0, .int .u8 0, .int .u8 0, .int .u8 0, .int .u8 0, .int .u8 0, .int .u8 0, .int .u8 0, .int .u8 0, .int .u8 0, .int .u8 0, .int .u8 0, .int .u8 0, .int .u8 0, .int .u8 0, .int .u8 0, .int .u8 0, .int .u8 0, .int .u8 0, .int .u8 0, .int .u8 0, .int .u8 0, .int .u8 0, .int .u8 0, .int .u8 0]) W := by
    intro z y W
    kernel_rfl
  unfold execOp
  simp only [ho, List.map_toArray, List.map_cons, List.map_nil, hu, hv, Sem.run_bind, h2, Result.andThen_ok, Sem.run_pure]
  rfl
/-- Alike but for what was sealed by whom. -/
def AlikeB (s s' : BSt) : Prop := s.mode = s'.mode ∧ s.F = s'.F ∧ s.u = s'.u ∧ s.n = s'.n ∧ s.m.map (·.1) = s'.m.map (·.1)
theorem knownM_keys (l : List (List UInt8 × Ent)) (y : List UInt8) : knownM l y = (l.map (·.1)).any fun p => decide (p = y) := by simp [knownM, List.any_map, Function.comp_def]
theorem idealL_alike (t : Nat) (s s' : BSt) (e e' : Ent) (h : AlikeB s s') (he : e.text.length = e'.text.length) : (idealL t s e).2 = (idealL t s' e').2 ∧ AlikeB (idealL t s e).1 (idealL t s' e').1 := by
  induction t generalizing s s' with
  | zero => exact ⟨rfl, h⟩
  | succ t ih =>
    obtain ⟨h1, h2, h3, h4, h5⟩ := h
    rw [idealL, idealL, ← he, ← h2, ← h3, knownM_keys s.m, knownM_keys s'.m, ← h5]
    split
    · exact ih _ _ ⟨h1, rfl, rfl, h4, h5⟩
    · refine ⟨rfl, h1, rfl, rfl, ?_, ?_⟩
      · simp only [h4]
      · simp [h5]
theorem SealR.ideal {s s' : BSt} {e : Ent} {r : Option (List UInt8)} (h : SealR s e s' r) (hm : s.mode = 1) : s' = (idealL 8 s e).1 ∧ r = (idealL 8 s e).2 := by
  rcases h with ⟨_, h⟩ | ⟨h0, _⟩
  · exact ⟨by rw [← h], by rw [← h]⟩
  · omega
theorem sealR_alike {s1 s2 s1' s2' : BSt} {e1 e2 : Ent} {r1 r2 : Option (List UInt8)} (h1 : SealR s1 e1 s1' r1) (h2 : SealR s2 e2 s2' r2) (hm : s1.mode = 1) (h : AlikeB s1 s2) (he : e1.text.length = e2.text.length) : r1 = r2 ∧ AlikeB s1' s2' := by
  obtain ⟨a1, b1⟩ := h1.ideal hm
  obtain ⟨a2, b2⟩ := h2.ideal (h.1 ▸ hm)
  rw [a1, b1, a2, b2]
  exact idealL_alike 8 s1 s2 e1 e2 h he
theorem own_block {w : World} {base : Nat} {v : Value} {l : List UInt8} (h : OwnB w base v l) (hl : l ≠ []) :
    ∃ g cap cur, v = .slice (some ⟨g, 0, none⟩) l.length cap ∧ base ≤ g ∧ w.heap[g]? = some (.cells cur 5 (0, 0)) ∧ l.length ≤ cap ∧ RdB w (some ⟨g, 0, none⟩) l := by
  have h' := h
  rcases h'.2 with ⟨hv, hn⟩ | ⟨g, cap, cur, hv, hb, hh, hnc, hcm, hcs, _⟩
  · exact absurd (List.eq_nil_of_length_eq_zero hn) hl
  · refine ⟨g, cap, cur, hv, hb, hh, hnc, fun j hj => ⟨g, 0, rfl, ?_⟩⟩
    have := h.cells (g := g) (by rw [hv]; rfl) j _ (B8_get l j hj)
    rwa [add_at] at this
theorem RdB.set {w : World} {g : Nat} {l : List UInt8} (h : RdB w (some ⟨g, 0, none⟩) l) (i : Nat) (hi : i < l.length) (y : UInt8) : RdB (w.setCell ⟨g, i, none⟩ (.int .u8 (y.toNat : Int))) (some ⟨g, 0, none⟩) (l.set i y) := by
  intro j hj
  rw [List.length_set] at hj
  refine ⟨g, 0, rfl, ?_⟩
  obtain ⟨b, o, e, hc⟩ := h j hj
  cases e
  obtain ⟨b', o', e', hci⟩ := h i hi
  cases e'
  rw [Nat.zero_add] at hc hci ⊢
  by_cases hij : i = j
  · subst hij
    rw [World.cell?_setCell_same _ _ _ (by rw [hci])]
    simp [List.getD_eq_getElem?_getD, hi]
  · rw [World.cell?_setCell_other _ _ _ _ (by simp <;> omega), hc]
    simp [List.getD_eq_getElem?_getD, List.getElem?_set, hij]
theorem RdA.at {W : World} {A : Option Addr} {zs : List BAct} (h : RdA W A zs) {j : Nat} (hj : j < zs.length) : ∃ z b o, zs[j]? = some z ∧ OkA W z ∧ A = some ⟨b, o, none⟩ ∧ W.rangeAt b (o + j * 5) (RowA z) := by
  obtain ⟨h1, b, o, e, hr⟩ := h j zs[j] (List.getElem?_eq_getElem hj)
  exact ⟨zs[j], b, o, List.getElem?_eq_getElem hj, h1, e, hr⟩
theorem cell_same {W W' : World} {b o : Nat} {v : Value} (h : W.cell? ⟨b, o, none⟩ = some v) (hw : W'.heap[b]? = W.heap[b]?) : W'.cell? ⟨b, o, none⟩ = some v := by
  rw [← h]
  simp only [World.cell?, hw]
theorem cell_lt {W : World} {b o : Nat} {v : Value} (h : W.cell? ⟨b, o, none⟩ = some v) : b < W.heap.size := by
  rcases Nat.lt_or_ge b W.heap.size with hb | hb
  · exact hb
  · unfold World.cell? at h
    rw [Array.getElem?_eq_none hb] at h
    simp at h
end Go.Proofs.Ytldjiigkebkgcaa

/- The law BoxIdeal, walked. -/
namespace Go.Proofs.Ytldjiigkebkgcaa
set_option linter.unusedVariables false
set_option linter.unusedSimpArgs false
open Go.RowKit
attribute [local go_sem ↓] Go.wp_at_zero Go.wp_at_succ

/-- The text as it is changed, up to a place. -/
def addL (t : List UInt8) (y : UInt8) (k : Nat) : List UInt8 := (t.take k).map (· + y) ++ t.drop k
theorem addL_length (t : List UInt8) (y : UInt8) (k : Nat) (hk : k ≤ t.length) : (addL t y k).length = t.length := by simp [addL]; omega
theorem addL_get (t : List UInt8) (y : UInt8) (k : Nat) (hk : k < t.length) : (addL t y k).getD k 0 = t.getD k 0 := by
  rw [addL, List.getD_eq_getElem?_getD, List.getElem?_append_right (by simp; omega), List.length_map, List.length_take, Nat.min_eq_left (by omega), Nat.sub_self, List.getElem?_drop, Nat.add_zero, ← List.getD_eq_getElem?_getD]
theorem addL_set (t : List UInt8) (y : UInt8) (k : Nat) (hk : k < t.length) : (addL t y k).set k (t.getD k 0 + y) = addL t y (k + 1) := by
  have e1 : ((t.take k).map (· + y)).length = k := by simp; omega
  rw [addL, addL, List.set_append_right _ _ (by omega), e1, Nat.sub_self, List.drop_eq_getElem_cons hk, List.set_cons_zero, List.take_succ_eq_append_getElem hk, List.map_append, List.append_assoc]
  simp [List.getD_eq_getElem?_getD, hk]
theorem u8_add_ex (x y : UInt8) : ∃ z : UInt8, Hid (z = x + y) ∧ IntKind.u8.wrap ((x.toNat : Int) + (y.toNat : Int)) = (z.toNat : Int) := by
  refine ⟨x + y, rfl, ?_⟩
  rw [IntKind.wrap_u8, UInt8.toNat_add]
  omega
set_option maxRecDepth 100000 in
set_option maxHeartbeats 4000000 in
theorem boxIdeal_walk (w : World) (A0 : Option Addr) (c0 : Nat) (l0 : List UInt8) (R0 : RdB w A0 l0) (n0 : l0.length ≤ c0) (m0 : c0 ≤ 9223372036854775807) (b0 : ∀ a, A0 = some a → a.block < w.heap.size) (z0 : l0.length ≤ 140737488351232)
    (A1 : Option Addr) (c1 : Nat) (zs : List BAct) (R1 : RdA w A1 zs) (n1 : zs.length ≤ c1) (x2 : UInt8) :
    Calls Try.prog 5 #[.slice A0 l0.length c0, .slice A1 zs.length c1, .int .u8 (x2.toNat : Int)] w fun e w' => e = .returned (.bool true) ∧ Below w.heap.size w w' := by
  have TB := Lib.hid (show ByteT Try.prog from ⟨Try.underlying23, by kernel_rfl⟩)
  obtain ⟨i0, hi0, hz0, hz1, hz2⟩ := info_parts (show (Try.prog.info? 5).map (fun i => (i.zero, i.size, i.bytes)) = some (some (.int .u8 0), 1, 1) by kernel_rfl)
  have I0 := Lib.hid hi0
  have I1 := Lib.hid hz1
  have IA := Lib.hid (show (Try.prog.info? 35).map (·.size) = some 5 by kernel_rfl)
  have F0 := Lib.hid R0
  have H1 := Lib.hid R1
  obtain ⟨q0, hq0⟩ : ∃ q, q = l0.length := ⟨_, rfl⟩
  obtain ⟨q1, hq1⟩ : ∃ q, q = zs.length := ⟨_, rfl⟩
  rw [← hq0, ← hq1]
  have Q0 := Lib.hid hq0.symm
  have Q1 := Lib.hid hq1.symm
  have QC := Lib.hid (show q0 ≤ c0 ∧ q0 ≤ 140737488351232 by rw [hq0]; exact ⟨n0, z0⟩)
  have d0 : (q0 : Int) ≤ 140737488351232 := by have := QC.out; omega
  clear hi0 hz0 hz1 hz2 R0 R1 n0 m0 b0 z0 n1 hq0 hq1
  go_enter Try.func5, Try.ntmps5
  obtain ⟨F, hF⟩ : ∃ F, F = l0.take 300 := ⟨_, rfl⟩
  obtain ⟨n, hn⟩ : ∃ n, n = F.length := ⟨_, rfl⟩
  have NE := Lib.hid hn.symm
  have NB := Lib.hid (show n ≤ 300 ∧ n ≤ c0 by have := QC.out; have := Q0.out; rw [hn, hF, List.length_take]; omega)
  have FR := Lib.hid (show RdB w A0 F by rw [hF]; exact F0.out.take _)
  go_upto_if 21 with fail
  go_cut [0] (fun v wx => v = .slice A0 n c0 ∧ wx = w)
  case first =>
    by_cases h3 : 300 < q0
    · have hD : decide ((300 : Int) < (q0 : Int)) = true := by simp; omega
      have QD := Lib.hid (show 300 ≤ c0 by have := QC.out; omega)
      go_wp2_with (refine wpList_val rfl (run_cut_to 23 (.tmp 22) (.const (.int .i64 300)) rfl 5 Try.underlying23 I0.out I1.out A0 q0 c0 300 rfl rfl QD.out _) ?_)
      go_meet
      exact ⟨by rw [hn, hF, List.length_take, Q0.out, Nat.min_eq_left (by omega)], rfl⟩
    · have hD : decide ((300 : Int) < (q0 : Int)) = false := by simp; omega
      go_wp2_with fail
      go_meet
      exact ⟨by rw [hn, hF, List.length_take, Q0.out, Nat.min_eq_right (by omega)], rfl⟩
  case rest =>
  obtain ⟨rfl, hwx⟩ := hcut
  rw [hwx]
  clear hwx hF hn d0
  have NZ := Lib.hid (show F.length ≤ 100000 by have := NB.out; rw [NE.out]; omega)
  go_wp2_with fail
  have RV := Lib.hid (RdV.row (g := w.heap.size) (l := [.slice A0 n c0]) (t := 23) (fr := (0, 0)) (w := w.alloc (.cells #[.slice A0 n c0] 23)) (ha_new _ _ _ rfl))
  have B3 := Lib.hid (below_new w (.cells #[.slice A0 n c0] 23))
  generalize World.alloc w _ = w3 at *
  refine (dnew_any w3 _ 1 1 _ [F] rfl RV.out (.cons ⟨_, c0, by rw [NE.out], by rw [NE.out]; exact NB.out.2, FR.out.keep B3.out⟩ .nil) (by have := NZ.out; simpa using this) (by omega)).mono ?_
  rw [show ([F] : List (List UInt8)).flatten = F by simp]
  rintro e w4 ⟨S, D, rfl, hg, hD1, hD2, hs, hb⟩
  have SW := Lib.hid (SrcW.new hg hD1 hD2 hs hb)
  clear hg hD1 hD2 hs hb
  go_wp2_with fail
  refine (bnew_any w3 S D F 0 w4 SW.out 1 (.inr rfl)).mono ?_
  rintro e w5 ⟨g, b, lo, rfl, hbx, hb2, hlo⟩
  have X := Lib.hid hbx
  have XL := Lib.hid hlo
  have BW5 := Lib.hid (B3.out.trans (hbx.bel.mono B3.out.size))
  clear hbx hb2 hlo SW
  go_wp2_with fail
  have RV := Lib.hid (RdV.row (g := w5.heap.size) (l := [.slice A0 n c0]) (t := 23) (fr := (0, 0)) (w := w5.alloc (.cells #[.slice A0 n c0] 23)) (ha_new _ _ _ rfl))
  have B5 := Lib.hid (below_new w5 (.cells #[.slice A0 n c0] 23))
  generalize World.alloc w5 _ = w6 at *
  refine (dnew_any w6 _ 1 1 _ [F] rfl RV.out (.cons ⟨_, c0, by rw [NE.out], by rw [NE.out]; exact NB.out.2, (FR.out.keep BW5.out).keep B5.out⟩ .nil) (by have := NZ.out; simpa using this) (by omega)).mono ?_
  rw [show ([F] : List (List UInt8)).flatten = F by simp]
  rintro e w7 ⟨S2, D2, rfl, hg, hD1, hD2, hs, hb⟩
  have SW := Lib.hid (SrcW.new hg hD1 hD2 hs hb)
  clear hg hD1 hD2 hs hb
  go_wp2_with fail
  refine (bnew_any w6 S2 D2 F 0 w7 SW.out 1 (.inr rfl)).mono ?_
  rintro e w8 ⟨g2, b2, lo2, rfl, hbx, hb2, hlo⟩
  have L1 := Lib.hid X.out.lt
  have Z56 := Lib.hid B5.out.size
  have B36 := Lib.hid (X.out.bel.trans (B5.out.mono X.out.bel.size))
  have X8 := Lib.hid ((X.out.keep B5.out).keep hbx.bel)
  have L2 := Lib.hid (show w5.heap.size ≤ g2 ∧ w5.heap.size ≤ S2 ∧ w5.heap.size ≤ D2 ∧ w5.heap.size ≤ b2 by have := hbx.hg; have := hbx.hS; have := hbx.hD; have := hbx.hb; have := Z56.out; omega)
  have L3 := Lib.hid hbx.lt
  have Y8 := Lib.hid (hbx.rebase B36.out)
  have Z8 := Lib.hid (show w5.heap.size ≤ w8.heap.size from Nat.le_trans Z56.out hbx.bel.size)
  obtain ⟨L, hL⟩ : ∃ L, L = w8.heap.size := ⟨_, rfl⟩
  have LE := Lib.hid hL
  have XX := Lib.hid (show BoxB w3 g S D b L ⟨1, F, 0, [], 0⟩ w8 from X8.out.raise rfl (by rw [hL]; exact Nat.le_trans XL.out Z8.out))
  have YY := Lib.hid (show BoxB w3 g2 S2 D2 b2 L ⟨1, F, 0, [], 0⟩ w8 from Y8.out.raise rfl (by rw [hL]; exact hlo))
  have NEQ := Lib.hid (show (g2 ≠ g ∧ g2 ≠ S ∧ g2 ≠ b) ∧ (S2 ≠ g ∧ S2 ≠ S ∧ S2 ≠ b) ∧ (D2 ≠ g ∧ D2 ≠ S ∧ D2 ≠ b) ∧ (b2 ≠ g ∧ b2 ≠ S ∧ b2 ≠ b) by have := L1.out; have := L2.out; omega)
  have NEQ' := Lib.hid (show (g ≠ g2 ∧ g ≠ S2 ∧ g ≠ b2) ∧ (S ≠ g2 ∧ S ≠ S2 ∧ S ≠ b2) ∧ (D ≠ g2 ∧ D ≠ S2 ∧ D ≠ b2) ∧ (b ≠ g2 ∧ b ≠ S2 ∧ b ≠ b2) by have := L1.out; have := L2.out; omega)
  have LL := Lib.hid (show (g < L ∧ S < L ∧ b < L) ∧ (g2 < L ∧ S2 < L ∧ b2 < L) by have := L1.out; have := L3.out; have := Z8.out; omega)
  have BG := Lib.hid (show (w.heap.size ≤ g ∧ w.heap.size ≤ S ∧ w.heap.size ≤ b) ∧ (w.heap.size ≤ g2 ∧ w.heap.size ≤ S2 ∧ w.heap.size ≤ b2) by have := B3.out.size; have := X.out.hg; have := X.out.hS; have := X.out.hb; have := L2.out; have := X.out.bel.size; omega)
  clear hbx hb2 hlo hL X XL X8 Y8 L1 L2 L3 B36 Z56 B5 SW RV BW5
  go_wp2_with fail
  go_loopw [11] (fun i wr => ∃ (m : Nat) (sa sb : BSt), m ≤ 12 ∧ m ≤ q1 ∧ i = .int .i64 (m : Int) ∧ BoxB w3 g S D b L sa wr ∧ BoxB w3 g2 S2 D2 b2 L sb wr ∧ AlikeB sa sb ∧ sa.mode = 1 ∧ sa.F = F ∧ sa.u ≤ m * 1824 ∧ sa.m.length ≤ m ∧ sa.n ≤ m ∧ L ≤ wr.heap.size) (fun i _ => 12 - (intOf i).toNat)
  case atStart => exact ⟨0, _, _, by omega, by omega, rfl, XX.out, YY.out, ⟨rfl, rfl, rfl, rfl, rfl⟩, rfl, rfl, by show 0 ≤ _; omega, by show 0 ≤ _; omega, by show 0 ≤ _; omega, by rw [LE.out]; exact Nat.le_refl _⟩
  case round =>
    obtain ⟨m, sa, sb, hm, hmq, rfl, hX, hY, hal, hmo, hFF, hu, hml, hn, hLL⟩ := hrel
    have M := Lib.hid (And.intro hm hmq)
    have X := Lib.hid hX
    have Y := Lib.hid hY
    have AL := Lib.hid hal
    have MO := Lib.hid hmo
    have FE := Lib.hid hFF
    have US := Lib.hid (And.intro hu (And.intro hml hn))
    have LW := Lib.hid hLL
    have BW := Lib.hid (show Below w.heap.size w wr from B3.out.trans (hX.bel.mono B3.out.size))
    clear hm hmq hX hY hal hmo hFF hu hml hn hLL XX YY
    obtain ⟨wp, rfl⟩ : ∃ wp : World, wp = wr := ⟨_, rfl⟩
    by_cases hq : m < q1
    · by_cases h12 : m < 12
      · have hD : decide ((m : Int) < (q1 : Int)) = true := by simp; omega
        have hD2 : decide ((m : Int) < 12) = true := by simp; omega
        obtain ⟨z, bz, oz, hz, hok, hA, hrz⟩ := H1.out.at (by rw [Q1.out]; exact hq)
        obtain ⟨zk, zn, ky, Ab, cb, lb, At, ct, lt⟩ := z
        have hok : (RdB w Ab lb ∧ lb.length ≤ cb) ∧ (RdB w At lt ∧ lt.length ≤ ct) ∧ _ := hok
        have OK := Lib.hid (And.intro hok.1 hok.2.1)
        have AE := Lib.hid hA
        have MQ := Lib.hid hq
        have BZ := Lib.hid (cell_lt (hrz 0 _ rfl))
        have BE := Lib.hid (BW.out.block bz BZ.out)
        have k2 : wp.cell? ⟨bz, oz + m * 5 + 2, none⟩ = some (.int .u8 (ky.toNat : Int)) := cell_same (hrz 2 _ rfl) BE.out
        have k3 : wp.cell? ⟨bz, oz + m * 5 + 3, none⟩ = some (.slice Ab lb.length cb) := cell_same (hrz 3 _ rfl) BE.out
        have k4 : wp.cell? ⟨bz, oz + m * 5 + 4, none⟩ = some (.slice At lt.length ct) := cell_same (hrz 4 _ rfl) BE.out
        have K2 := Lib.hid k2
        have K3 := Lib.hid k3
        clear hz hok hrz hA
        go_wp2_with (refine wpList_val rfl (run_iaddr_slk 22 (.tmp 54) (.tmp 55) rfl 35 Try.underlying22 5 IA.out bz oz q1 c1 m MQ.out .i64 _ rfl (by rw [← AE.out]; rfl) rfl _) ?_)
        refine (bshort_any _ At lt.length ct lt rfl OK.out.2.2).mono ?_
        obtain ⟨t, ht⟩ : ∃ t, t = lt.take 200 := ⟨_, rfl⟩
        obtain ⟨q, hq⟩ : ∃ q, q = t.length := ⟨_, rfl⟩
        rw [← ht, ← hq]
        have TL := Lib.hid hq.symm
        have TQ := Lib.hid (show q ≤ 200 ∧ q ≤ ct by have := OK.out.2.2; rw [hq, ht, List.length_take]; omega)
        have TW := Lib.hid (show RdB w At t by rw [ht]; exact OK.out.2.1.take _)
        have TR := Lib.hid (TW.out.keep BW.out)
        obtain ⟨bs, hbs⟩ : ∃ bs, bs = lb.take 200 := ⟨_, rfl⟩
        obtain ⟨p, hp⟩ : ∃ p, p = bs.length := ⟨_, rfl⟩
        have PE := Lib.hid (show (lb.take 200).length = p by rw [hp, hbs])
        have BL := Lib.hid hp.symm
        have BQ := Lib.hid (show p ≤ 200 ∧ p ≤ cb by have := OK.out.1.2; rw [hp, hbs, List.length_take]; omega)
        have BR := Lib.hid (show RdB wp Ab bs by rw [hbs]; exact (OK.out.1.1.take _).keep BW.out)
        rintro e wd ⟨rfl, hw⟩
        rw [hw]
        clear hw wd ht hq hbs hp k2 k3 k4
        have qb : (q : Int) ≤ 200 := by have := TQ.out; omega
        go_wp2_with (refine app_list rfl TB.out (.tmp 60) (.tmp 61) rfl wp.heap.size _ [] t At q ct rfl rfl TL.out (World.ownsRow_made wp #[] 0 (Nat.le_refl _) (Nat.zero_le _) rfl) (TR.out.keep (below_new _ _)) (by simp) (by have := TQ.out; simp; omega) ?_)
        intro v1 wo ho hg _
        have BO := Lib.hid (Below.trans (below_new wp (.cells #[] 5)) (grown_below hg (by rw [ha_size]; omega) (show ∀ x, (Value.slice (some ⟨wp.heap.size, 0, none⟩) 0 0).ownBlock = some x → wp.heap.size ≤ x from fun x e => by simp [Value.ownBlock] at e; omega)))
        have O := Lib.hid (show OwnB wo wp.heap.size v1 t from ho)
        obtain ⟨A3, c3, rfl, hr3, hc3, _, hb3⟩ := ho.read
        rw [TL.out]
        have R3 := Lib.hid hr3
        have C3 := Lib.hid (show q ≤ c3 by rw [← TL.out]; exact hc3)
        have G3 := Lib.hid (show 0 < q → ∃ g3 cur, A3 = some ⟨g3, 0, none⟩ ∧ wp.heap.size ≤ g3 ∧ wo.heap[g3]? = some (.cells cur 5 (0, 0)) by
          intro h0
          obtain ⟨g3, cap, cur, e3, h1, h2, _⟩ := own_block O.out (by intro hn; have := TL.out; rw [hn] at this; simp at this; omega)
          injection e3 with e3
          exact ⟨g3, cur, e3, h1, h2⟩)
        clear ho hg hr3 hc3 hb3 O
        go_wp2_with fail
        go_loopw [14] (fun k wi => ∃ j : Nat, j ≤ q ∧ k = .int .i64 (j : Int) ∧ RdB wi A3 (addL t x2 j) ∧ Below wp.heap.size wp wi ∧ (0 < q → ∃ g3 cur, A3 = some ⟨g3, 0, none⟩ ∧ wp.heap.size ≤ g3 ∧ wi.heap[g3]? = some (.cells cur 5 (0, 0)))) (fun k _ => q - (intOf k).toNat)
        case atStart => exact ⟨0, by omega, rfl, R3.out, BO.out, G3.out⟩
        case round =>
          obtain ⟨j, hj, rfl, hR, hB, hG⟩ := hrel
          have J := Lib.hid hj
          have RI := Lib.hid hR
          have BI := Lib.hid hB
          have GI := Lib.hid hG
          have AT := Lib.hid (show (addL t x2 j).length = q by rw [addL_length _ _ _ (by rw [TL.out]; exact hj), TL.out])
          clear hj hR hB hG R3 BO G3
          by_cases hjq : j < q
          · have hE : decide ((j : Int) < (q : Int)) = true := by simp; omega
            have jb : (j : Int) < (q : Int) := by omega
            have j0 : (0 : Int) ≤ (j : Int) := by omega
            obtain ⟨g3, cur, rfl, hg3, hrow⟩ := GI.out (by omega)
            obtain ⟨y, hy⟩ : ∃ y, y = t.getD j 0 := ⟨_, rfl⟩
            obtain ⟨b', o', e', hc⟩ := RI.out j (by rw [AT.out]; exact hjq)
            cases e'
            rw [Nat.zero_add, addL_get _ _ _ (by rw [TL.out]; exact hjq), ← hy] at hc
            have hf := row_free hrow j
            obtain ⟨v, hv, ev⟩ := u8_add_ex y x2
            have G3 := Lib.hid hg3
            have ROW := Lib.hid hrow
            have YE := Lib.hid hy
            have JQ := Lib.hid hjq
            clear hg3 hrow hy hjq GI
            go_wp2_with fail
            go_roundw
            case rel =>
              have GS := grown_set (World.grownBy.refl wr (some g3)) j (.int .u8 (v.toNat : Int))
              have BN := grown_below GS BI.out.size (by rintro k ⟨⟩; exact G3.out)
              refine ⟨j + 1, by have := JQ.out; omega, by go_num, ?_, BI.out.trans BN, fun _ => ⟨g3, _, rfl, G3.out, heap_setCell_same _ _ _ _ _ _ ROW.out⟩⟩
              have h1 := RI.out.set j (by rw [AT.out]; exact JQ.out) v
              have e9 : (addL t x2 j).set j v = addL t x2 (j + 1) := by rw [hv.out, YE.out, addL_set _ _ _ (by rw [TL.out]; exact JQ.out)]
              rwa [e9] at h1
            case measure => have := JQ.out; simp [intOf]; omega
          · have hE : decide ((j : Int) < (q : Int)) = false := by simp; omega
            obtain rfl : q = j := by have := J.out; omega
            go_upto_region 16 with fail
            have LZ := Lib.hid X.out.lt
            have LY := Lib.hid Y.out.lt
            have KD := Lib.hid (show wr.drew.heap[bz]? = wp.heap[bz]? from BI.out.block bz (Nat.lt_of_lt_of_le BZ.out BW.out.size))
            have BD := Lib.hid (show Below wp.heap.size wp wr.drew from BI.out.trans ((Below.refl _ _).drew))
            refine wp_region_road (fun W => W.heap[bz]? = wp.heap[bz]?) [(true, 0), (true, 1), (true, 2), (true, 3), (true, 4), (true, 5), (true, 6), (true, 7), (true, 8), (true, 9), (true, 10), (true, 11), (true, 13), (false, 12), (false, 14), (true, 15), (true, 16), (true, 17), (true, 18), (true, 19)] (by kernel_rfl) (by kernel_rfl) (fun _ _ d _ _ h => by cases d <;> exact h) ?_
            simp only [List.filterMap_cons, List.filterMap_nil, List.getElem?_toArray, List.getElem?_cons_zero, List.getElem?_cons_succ, Option.map_some]
            refine planG_q (v := ?_) (by rfl) (KD.out) ?_ ?_
            rotate_left
            · intro W hW
              go_simp
              with_reducible rfl
            simp only [Act.put, List.setIfInBounds_toArray, List.set_cons_zero, List.set_cons_succ]
            refine planG_q (v := ?_) (by rfl) (KD.out) ?_ ?_
            rotate_left
            · intro W hW
              go_simp
              with_reducible rfl
            simp only [Act.put, List.setIfInBounds_toArray, List.set_cons_zero, List.set_cons_succ]
            refine planG_q (v := ?_) (by rfl) (KD.out) ?_ ?_
            rotate_left
            · intro W hW
              go_simp
              with_reducible rfl
            simp only [Act.put, List.setIfInBounds_toArray, List.set_cons_zero, List.set_cons_succ]
            refine planG_q (by rfl) (KD.out) (fun W hW => run_iaddr_slk 22 (.tmp 80) (.tmp 81) rfl 35 Try.underlying22 5 IA.out bz oz q1 c1 m MQ.out .i64 _ rfl (by rw [← AE.out]; rfl) rfl W) ?_
            simp only [Act.put, List.setIfInBounds_toArray, List.set_cons_zero, List.set_cons_succ]
            refine planG_q (v := ?_) (by rfl) (KD.out) ?_ ?_
            rotate_left
            · intro W hW
              go_simp
              with_reducible rfl
            simp only [Act.put, List.setIfInBounds_toArray, List.set_cons_zero, List.set_cons_succ]
            refine planG_q (by rfl) (KD.out) (fun W hW => run_cell 5 (.tmp 83) rfl _ Try.underlying5 rfl rfl (cell_same K2.out hW)) ?_
            simp only [Act.put, List.setIfInBounds_toArray, List.set_cons_zero, List.set_cons_succ]
            refine planG_q (by rfl) (KD.out) (fun W hW => run_keyK (.tmp 84) rfl ky rfl W) ?_
            simp only [Act.put, List.setIfInBounds_toArray, List.set_cons_zero, List.set_cons_succ]
            refine planG_q (v := ?_) (by rfl) (KD.out) ?_ ?_
            rotate_left
            · intro W hW
              go_simp
              with_reducible rfl
            simp only [Act.put, List.setIfInBounds_toArray, List.set_cons_zero, List.set_cons_succ]
            refine planG_q (v := ?_) (by rfl) (KD.out) ?_ ?_
            rotate_left
            · intro W hW
              go_simp
              with_reducible rfl
            simp only [Act.put, List.setIfInBounds_toArray, List.set_cons_zero, List.set_cons_succ]
            refine planG_q (by rfl) (KD.out) (fun W hW => run_iaddr_slk 22 (.tmp 86) (.tmp 87) rfl 35 Try.underlying22 5 IA.out bz oz q1 c1 m MQ.out .i64 _ rfl (by rw [← AE.out]; rfl) rfl W) ?_
            simp only [Act.put, List.setIfInBounds_toArray, List.set_cons_zero, List.set_cons_succ]
            refine planG_q (v := ?_) (by rfl) (KD.out) ?_ ?_
            rotate_left
            · intro W hW
              go_simp
              with_reducible rfl
            simp only [Act.put, List.setIfInBounds_toArray, List.set_cons_zero, List.set_cons_succ]
            refine planG_q (by rfl) (KD.out) (fun W hW => run_cell 23 (.tmp 89) rfl _ Try.underlying23 rfl rfl (cell_same K3.out hW)) ?_
            simp only [Act.put, List.setIfInBounds_toArray, List.set_cons_zero, List.set_cons_succ]
            refine planG_q (v := ?_) (by rfl) (KD.out) ?_ ?_
            rotate_left
            · intro W hW
              go_simp
              with_reducible rfl
            simp only [Act.put, List.setIfInBounds_toArray, List.set_cons_zero, List.set_cons_succ]
            refine planG_t (by rfl) (fun K hK => ?_)
            go_simp
            refine (bshort_any _ Ab lb.length cb lb rfl OK.out.1.2).mono ?_
            rw [PE.out]
            rintro e wd ⟨rfl, hw⟩
            rw [hw]
            clear hw wd
            refine hK.out _ _ (KD.out) ?_
            clear hK K
            refine planG_t (by rfl) (fun K hK => ?_)
            go_simp
            refine (bseal_any w3 g S D b L sa wr.drew (X.out.keep BD.out) (.inr MO.out) ⟨keyK ky, bs, t⟩ rfl Ab p cb BL.out (BR.out.keep BD.out) (by have := BQ.out; omega) At q ct TL.out TQ.out.2 (TR.out.keep BD.out) (TW.out.apart BG.out.1) (by have := TQ.out; omega) (by have := US.out.1; have := TQ.out; have := M.out; omega) (by rw [FE.out]; exact NZ.out) (by have := US.out; have := M.out; omega) (by have := US.out; have := M.out; omega) (Nat.le_trans LW.out BD.out.size)).mono ?_
            rintro e wx ⟨Ax, mx, cx, sa', r, rfl, hsr, hrx, hlx, hcx, hbx, hbb, hff⟩
            have WX := Lib.hid (show wp.heap.size ≤ wx.heap.size from Nat.le_trans BD.out.size hff.1)
            have KX := Lib.hid (show wx.heap[bz]? = wp.heap[bz]? from (hff.2 bz (Nat.lt_of_lt_of_le BZ.out (Nat.le_trans BW.out.size BD.out.size)) (by have := BG.out; have := BZ.out; omega) (by have := BG.out; have := BZ.out; omega) (by have := BG.out; have := BZ.out; omega)).trans KD.out)
            have Y1 := Lib.hid ((Y.out.keep BD.out).other hff hbb.bel NEQ.out.1 NEQ.out.2.1 NEQ.out.2.2.1 NEQ.out.2.2.2 LL.out.1)
            have X1 := Lib.hid hbb
            have SR := Lib.hid hsr
            have RX := Lib.hid hrx
            have XL := Lib.hid hlx
            have BX := Lib.hid (show ∀ a, Ax = some a → wp.heap.size ≤ a.block from fun a ea => Nat.le_trans BD.out.size (hbx a ea).1)
            have RO := Lib.hid (show RdB wx A3 (addL t x2 q) from (RI.out.keep (Below.refl _ _).drew).boxF hff (fun hne a ea => by
              obtain ⟨g3, cur, e3, h3, _⟩ := GI.out (by have := AT.out; rcases Nat.eq_zero_or_pos q with h0 | h0; exact absurd (List.eq_nil_of_length_eq_zero (by omega)) hne; exact h0)
              rw [e3] at ea
              cases ea
              have := LZ.out
              refine ⟨?_, ?_, ?_⟩ <;> (show g3 ≠ _; omega)))
            have OP := Lib.hid (show addL t x2 q ≠ [] → ∀ a, A3 = some a → a.block ≠ g2 ∧ a.block ≠ S2 ∧ a.block ≠ b2 from fun hne a ea => by
              obtain ⟨g3, cur, e3, h3, _⟩ := GI.out (by have := AT.out; rcases Nat.eq_zero_or_pos q with h0 | h0; exact absurd (List.eq_nil_of_length_eq_zero (by omega)) hne; exact h0)
              rw [e3] at ea
              cases ea
              have := LY.out
              refine ⟨?_, ?_, ?_⟩ <;> (show g3 ≠ _; omega))
            obtain ⟨kx, hkx⟩ : ∃ kx : Int, kx = (if r.isSome then 0 else 15) := ⟨_, rfl⟩
            have KXE := Lib.hid hkx
            rw [← hkx]
            clear hsr hrx hlx hcx hbx hbb hff hkx X Y RI GI
            refine hK.out _ _ (KX.out) ?_
            clear hK K
            refine planG_q (v := ?_) (by rfl) (KX.out) ?_ ?_
            rotate_left
            · intro W hW
              go_simp
              with_reducible rfl
            simp only [Act.put, List.setIfInBounds_toArray, List.set_cons_zero, List.set_cons_succ]
            refine planG_q (v := ?_) (by rfl) (KX.out) ?_ ?_
            rotate_left
            · intro W hW
              go_simp
              with_reducible rfl
            simp only [Act.put, List.setIfInBounds_toArray, List.set_cons_zero, List.set_cons_succ]
            refine planG_q (v := ?_) (by rfl) (KX.out) ?_ ?_
            rotate_left
            · intro W hW
              go_simp
              with_reducible rfl
            simp only [Act.put, List.setIfInBounds_toArray, List.set_cons_zero, List.set_cons_succ]
            refine planG_q (v := ?_) (by rfl) (KX.out) ?_ ?_
            rotate_left
            · intro W hW
              go_simp
              with_reducible rfl
            simp only [Act.put, List.setIfInBounds_toArray, List.set_cons_zero, List.set_cons_succ]
            refine planG_q (v := ?_) (by rfl) (KX.out) ?_ ?_
            rotate_left
            · intro W hW
              go_simp
              with_reducible rfl
            simp only [Act.put, List.setIfInBounds_toArray, List.set_cons_zero, List.set_cons_succ]
            refine planG_nil ?_
            go_wp2_with (refine wpList_val rfl (run_keyK2 (.tmp 98) (.const (.int .u8 1)) rfl x2 1 rfl rfl _) ?_)
            have ML := Lib.hid (show sb.m.length = sa.m.length by have := congrArg List.length AL.out.2.2.2.2; simpa using this.symm)
            refine (bseal_any w3 g2 S2 D2 b2 L sb wx Y1.out (.inr (by rw [← AL.out.1]; exact MO.out)) ⟨keyK2 x2 1, [], addL t x2 q⟩ rfl none 0 0 rfl (RdB.nil _ _) (by omega) A3 q c3 AT.out C3.out RO.out OP.out (by have := TQ.out; omega) (by rw [← AL.out.2.2.1]; have := US.out.1; have := TQ.out; have := M.out; omega) (by rw [← AL.out.2.1, FE.out]; exact NZ.out) (by rw [ML.out]; have := US.out; have := M.out; omega) (by rw [← AL.out.2.2.2.1]; have := US.out; have := M.out; omega) (Nat.le_trans LW.out WX.out)).mono ?_
            rintro e wy ⟨Ay, my, cy, sb', r2, rfl, hsr2, hry, hly, hcy, hby, hbb2, hff2⟩
            obtain ⟨hr2, hal2⟩ := sealR_alike SR.out hsr2 MO.out AL.out (by show t.length = _; rw [TL.out, AT.out])
            subst hr2
            have X2 := Lib.hid (X1.out.other hff2 hbb2.bel NEQ'.out.1 NEQ'.out.2.1 NEQ'.out.2.2.1 NEQ'.out.2.2.2 LL.out.2)
            have RX := Lib.hid (show RdB wy Ax (r.getD []) from RX.out.boxF hff2 (fun _ a ea => by have := BX.out a ea; have := LY.out; omega))
            have RY := Lib.hid hry
            have YL := Lib.hid hly
            have Y2 := Lib.hid hbb2
            have AL2 := Lib.hid hal2
            have SM := Lib.hid SR.out.mode
            have LWY := Lib.hid (show L ≤ wy.heap.size from Nat.le_trans LW.out (Nat.le_trans WX.out hff2.1))
            rw [← KXE.out]
            clear hsr2 hry hly hcy hby hbb2 hff2 hal2 X1 Y1 KXE
            go_wp2_with (first
              | (refine wpList_valg (by rfl) (run_str 23 9 (.tmp 104) rfl Try.underlying23 Try.underlying5 Try.underlying9 RX.out mx cx XL.out rfl) ?_)
              | (refine wpList_valg (by rfl) (run_str 23 9 (.tmp 106) rfl Try.underlying23 Try.underlying5 Try.underlying9 RY.out my cy YL.out rfl) ?_)
              | (refine wpList_valg (by rfl) (run_neqstr_false 9 _ (.tmp 105) (.tmp 107) rfl (r.getD []) (r.getD []) rfl rfl rfl _) ?_))
            go_roundw
            case rel =>
              have h1 : _ ∧ _ ∧ sa'.u ≤ sa.u + 8 * (t.length + 28) ∧ _ ∧ _ := SM.out
              have h2 := US.out
              have h3 := TQ.out
              have h4 := M.out
              have h5 := TL.out
              rw [h5] at h1
              exact ⟨m + 1, sa', sb', by omega, by have := MQ.out; omega, by go_num, X2.out, Y2.out, AL2.out, by rw [h1.1]; exact MO.out, by rw [h1.2.1]; exact FE.out, by omega, by omega, by omega, LWY.out⟩
            case measure => simp [intOf]; omega
      · have hD : decide ((m : Int) < (q1 : Int)) = true := by simp; omega
        have hD2 : decide ((m : Int) < 12) = false := by simp; omega
        go_wp2_with fail
        refine (bcount_any w3 g S D b L sa _ X.out).mono ?_
        rintro e wd ⟨rfl, hw⟩
        rw [hw]
        clear hw wd
        go_wp2_with fail
        refine (bcount_any w3 g2 S2 D2 b2 L sb _ Y.out).mono ?_
        rintro e wd ⟨rfl, hw⟩
        rw [hw, ← AL.out.2.2.2.1]
        clear hw wd
        go_wp2_with fail
        refine (boxOne_true _).mono ?_
        rintro e wz ⟨rfl, hbz⟩
        have BF := Lib.hid (BW.out.trans (hbz.mono BW.out.size))
        clear hbz
        go_wp2_with fail
        go_ret
        exact ⟨rfl, BF.out⟩
    · have hD : decide ((m : Int) < (q1 : Int)) = false := by simp; omega
      go_wp2_with fail
      refine (bcount_any w3 g S D b L sa _ X.out).mono ?_
      rintro e wd ⟨rfl, hw⟩
      rw [hw]
      clear hw wd
      go_wp2_with fail
      refine (bcount_any w3 g2 S2 D2 b2 L sb _ Y.out).mono ?_
      rintro e wd ⟨rfl, hw⟩
      rw [hw, ← AL.out.2.2.2.1]
      clear hw wd
      go_wp2_with fail
      refine (boxOne_true _).mono ?_
      rintro e wz ⟨rfl, hbz⟩
      have BF := Lib.hid (BW.out.trans (hbz.mono BW.out.size))
      clear hbz
      go_wp2_with fail
      go_ret
      exact ⟨rfl, BF.out⟩
end Go.Proofs.Ytldjiigkebkgcaa
