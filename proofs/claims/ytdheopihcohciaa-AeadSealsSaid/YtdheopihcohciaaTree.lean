/- A region that draws its order, walked along a tree of roads: what only reads is taken as it comes; what is left comes up alone, or two or three of them, each with a road of its own behind it. No condition but those each theorem states. -/
import Derived.Test.YtdheopihcohciaaGPlan
namespace Go.Proofs.Ytdheopihcohciaa
set_option linter.unusedVariables false
set_option linter.unusedSimpArgs false
open Go.RowKit

inductive Road where
  | done : Road
  | q : Nat → Road → Road
  | t : Nat → Road → Road
  | two : Nat → Road → Nat → Road → Road
  | three : Nat → Road → Nat → Road → Nat → Road → Road
section
variable {P : Program} {ops : Array Oper} {Q : Exit → Act → World → Prop} {S : World → Prop}
/-- May this tree be taken? -/
def roadB (ops : Array Oper) : Road → Array Bool → Bool
  | .done, L => (Region.ready .any ops L).isEmpty
  | .q i T, L => (ops[i]?).isSome && Region.free .any ops L i && (Region.ready .any ops L).contains i && roadB ops T (L.setIfInBounds i true)
  | .t i T, L => (ops[i]?).isSome && (match Region.ready .any ops L with | [j] => Nat.beq j i | _ => false) && roadB ops T (L.setIfInBounds i true)
  | .two i T j U, L => (ops[i]?).isSome && (ops[j]?).isSome && (match Region.ready .any ops L with | [a, b] => Nat.beq a i && Nat.beq b j | _ => false) && roadB ops T (L.setIfInBounds i true) && roadB ops U (L.setIfInBounds j true)
  | .three i T j U k V, L => (ops[i]?).isSome && (ops[j]?).isSome && (ops[k]?).isSome && (match Region.ready .any ops L with | [a, b, c] => Nat.beq a i && Nat.beq b j && Nat.beq c k | _ => false) && roadB ops T (L.setIfInBounds i true) && roadB ops U (L.setIfInBounds j true) && roadB ops V (L.setIfInBounds k true)
def roadN : Road → Nat
  | .done => 0
  | .q _ T => roadN T + 1
  | .t _ T => roadN T + 1
  | .two _ T _ U => max (roadN T) (roadN U) + 1
  | .three _ T _ U _ V => max (roadN T) (max (roadN U) (roadN V)) + 1
/-- One that comes up. -/
def stepR (P : Program) (ops : Array Oper) (Q : Exit → Act → World → Prop) (S : World → Prop) (K : Act → World → Prop) (i : Nat) (a : Act) (w : World) : Prop :=
  ∃ o, ops[i]? = some o ∧ if Region.wanted o (yielded ops a.tmps) = true then o.wp P a w (fun a' w' => S w' ∧ K a' w') Q else S w ∧ K (a.put o.dst undef) w
/-- The tree. -/
def road (P : Program) (ops : Array Oper) (Q : Exit → Act → World → Prop) : (World → Prop) → Road → Act → World → Prop
  | _, .done, a, w => Q .normal a w
  | S, .q i T, a, w => ∃ S' : World → Prop, (∀ w, S' w → S w) ∧ S' w ∧ ∃ o, ops[i]? = some o ∧ ∃ v, YieldsIf P ops S' o v a ∧ road P ops Q S' T (a.put o.dst v) w
  | S, .t i T, a, w => ∃ S' : World → Prop, (∀ w, S' w → S w) ∧ stepR P ops Q S' (road P ops Q S' T) i a w
  | S, .two i T j U, a, w => ∃ S' : World → Prop, (∀ w, S' w → S w) ∧ stepR P ops Q S' (road P ops Q S' T) i a w ∧ stepR P ops Q S' (road P ops Q S' U) j a w
  | S, .three i T j U k V, a, w => ∃ S' : World → Prop, (∀ w, S' w → S w) ∧ stepR P ops Q S' (road P ops Q S' T) i a w ∧ stepR P ops Q S' (road P ops Q S' U) j a w ∧ stepR P ops Q S' (road P ops Q S' V) k a w
theorem stepR_sound {S : World → Prop} {K K' : Act → World → Prop} {i : Nat} {a : Act} {w : World} (h : stepR P ops Q S K i a w) (hK : ∀ a w, K a w → K' a w) : wpOp P ops Q i (fun a' w' => S w' ∧ K' a' w') a w := by
  obtain ⟨o, ho, h⟩ := h
  unfold wpOp
  simp only [ho]
  split
  · rename_i hw
    rw [if_pos hw] at h
    exact .inl (Oper.wp_mono (fun a' w' hh => ⟨hh.1, hK _ _ hh.2⟩) h)
  · rename_i hw
    rw [if_neg hw] at h
    exact ⟨h.1, hK _ _ h.2⟩
theorem road_sound (hQ : ∀ c a d v w, Q (.panic c) (Act.put a d v) w → Q (.panic c) a w) (hs : Region.noSelect ops = true) : ∀ (T : Road) (S : World → Prop) (fuel : Nat) (L : Array Bool) (a : Act) (w : World), roadN T ≤ fuel → roadB ops T L = true →
    road P ops Q S T a w → wpAnyH P .any ops Q S fuel L a w := by
  intro T
  induction T with
  | done =>
    intro S fuel L a w _ hB h
    simp only [roadB, List.isEmpty_iff] at hB
    exact wpAnyH_done hB h fuel
  | q i T ih =>
    intro S fuel L a w hf hB h
    simp only [roadB, Bool.and_eq_true] at hB
    obtain ⟨⟨⟨hi, hfr⟩, hr⟩, hB'⟩ := hB
    simp only [roadN] at hf
    obtain ⟨fuel, rfl⟩ : ∃ m, fuel = m + 1 := ⟨fuel - 1, by omega⟩
    obtain ⟨S', hSS, hS, o, ho, v, hy, h'⟩ := h
    exact wpAnyH_narrow hSS _ _ _ _ (wpAnyH_take ho hs hfr hr (fun c a w hh => hQ c a _ _ w hh) hy hS (ih S' fuel _ _ w (by omega) hB' h'))
  | t i T ih =>
    intro S fuel L a w hf hB h
    simp only [roadB, Bool.and_eq_true] at hB
    obtain ⟨⟨hi, hr0⟩, hB'⟩ := hB
    have hr : Region.ready .any ops L = [i] := by
      split at hr0
      · rename_i j hj
        rw [hj, Nat.eq_of_beq_eq_true hr0]
      · cases hr0
    simp only [roadN] at hf
    obtain ⟨fuel, rfl⟩ : ∃ m, fuel = m + 1 := ⟨fuel - 1, by omega⟩
    obtain ⟨S', hSS, h⟩ := h
    refine wpAnyH_narrow hSS _ _ _ _ (wpAnyH_all hr (by simp) ?_)
    intro j hj
    obtain rfl : j = i := by simpa using hj
    exact stepR_sound h (fun a w h => ih S' fuel _ a w (by omega) hB' h)
  | two i T j U ihT ihU =>
    intro S fuel L a w hf hB h
    simp only [roadB, Bool.and_eq_true] at hB
    obtain ⟨⟨⟨_, hr0⟩, hT⟩, hU⟩ := hB
    have hr : Region.ready .any ops L = [i, j] := by
      split at hr0
      · rename_i a b hj
        simp only [Bool.and_eq_true] at hr0
        rw [hj, Nat.eq_of_beq_eq_true hr0.1, Nat.eq_of_beq_eq_true hr0.2]
      · cases hr0
    simp only [roadN] at hf
    obtain ⟨fuel, rfl⟩ : ∃ m, fuel = m + 1 := ⟨fuel - 1, by omega⟩
    obtain ⟨S', hSS, h1, h2⟩ := h
    refine wpAnyH_narrow hSS _ _ _ _ (wpAnyH_all hr (by simp) ?_)
    intro k hk
    simp only [List.mem_cons, List.not_mem_nil, or_false] at hk
    rcases hk with rfl | rfl
    · exact stepR_sound h1 (fun a w h => ihT S' fuel _ a w (by omega) hT h)
    · exact stepR_sound h2 (fun a w h => ihU S' fuel _ a w (by omega) hU h)
  | three i T j U k V ihT ihU ihV =>
    intro S fuel L a w hf hB h
    simp only [roadB, Bool.and_eq_true] at hB
    obtain ⟨⟨⟨⟨_, hr0⟩, hT⟩, hU⟩, hV⟩ := hB
    have hr : Region.ready .any ops L = [i, j, k] := by
      split at hr0
      · rename_i a b c hj
        simp only [Bool.and_eq_true] at hr0
        rw [hj, Nat.eq_of_beq_eq_true hr0.1.1, Nat.eq_of_beq_eq_true hr0.1.2, Nat.eq_of_beq_eq_true hr0.2]
      · cases hr0
    simp only [roadN] at hf
    obtain ⟨fuel, rfl⟩ : ∃ m, fuel = m + 1 := ⟨fuel - 1, by omega⟩
    obtain ⟨S', hSS, h1, h2, h3⟩ := h
    refine wpAnyH_narrow hSS _ _ _ _ (wpAnyH_all hr (by simp) ?_)
    intro m hm
    simp only [List.mem_cons, List.not_mem_nil, or_false] at hm
    rcases hm with rfl | rfl | rfl
    · exact stepR_sound h1 (fun a w h => ihT S' fuel _ a w (by omega) hT h)
    · exact stepR_sound h2 (fun a w h => ihU S' fuel _ a w (by omega) hU h)
    · exact stepR_sound h3 (fun a w h => ihV S' fuel _ a w (by omega) hV h)
/-- THE LAW. -/
theorem wp_region_tree {id : Nat} {l : List Oper} {a : Act} {w : World} (S : World → Prop) (T : Road) (hm : P.follows .mixedOrders = true)
    (hB : (roadB l.toArray T (Array.replicate l.toArray.size false) && Region.noSelect l.toArray && Nat.ble (roadN T) l.toArray.size) = true)
    (hQ : ∀ c a d v w, Q (.panic c) (Act.put a d v) w → Q (.panic c) a w)
    (h : road P l.toArray Q S T a w.drew) : (Code.region id l.toArray true).wp P Q a w := by
  simp only [Bool.and_eq_true] at hB
  exact wp_region_held hm (road_sound hQ hB.1.2 T S _ _ a w.drew (Nat.le_of_ble_eq_true hB.2) hB.1.1 h)
theorem road_q {i : Nat} {T : Road} {o : Oper} {a : Act} {w : World} {v : Value} (ho : ops.toList[i]? = some o) (hw : Region.wanted o (yielded ops a.tmps) = true) (hS : S w) (hy : ∀ w, S w → (execOp a.eval o).run P w = .ok (.value v) w) (h : road P ops Q S T (a.put o.dst v) w) : road P ops Q S (.q i T) a w := ⟨S, fun _ h => h, hS, o, by simpa using ho, v, .inl ⟨hw, hy⟩, h⟩
theorem road_qs {i : Nat} {T : Road} {o : Oper} {a : Act} {w : World} (ho : ops.toList[i]? = some o) (hw : Region.wanted o (yielded ops a.tmps) = false) (hS : S w) (h : road P ops Q S T (a.put o.dst undef) w) : road P ops Q S (.q i T) a w := ⟨S, fun _ h => h, hS, o, by simpa using ho, undef, .inr ⟨hw, rfl⟩, h⟩
/-- The class grows narrower. -/
theorem road_sw (S' : World → Prop) {T : Road} {a : Act} {w : World} (hSS : ∀ w, S' w → S w) (h : road P ops Q S' T a w) : road P ops Q S T a w := by
  cases T with
  | done => exact h
  | q i T => obtain ⟨T, h1, h2⟩ := h; exact ⟨T, fun w h => hSS w (h1 w h), h2⟩
  | t i T => obtain ⟨T, h1, h2⟩ := h; exact ⟨T, fun w h => hSS w (h1 w h), h2⟩
  | two i T j U => obtain ⟨T, h1, h2⟩ := h; exact ⟨T, fun w h => hSS w (h1 w h), h2⟩
  | three i T j U k V => obtain ⟨T, h1, h2⟩ := h; exact ⟨T, fun w h => hSS w (h1 w h), h2⟩
theorem stepR_t {K' : Act → World → Prop} {i : Nat} {o : Oper} {a : Act} {w : World} (ho : ops.toList[i]? = some o) (hw : Region.wanted o (yielded ops a.tmps) = true)
    (h : ∀ K : Act → World → Prop, Hid (∀ a w, S w → K' a w → K a w) → o.wp P a w K Q) : stepR P ops Q S K' i a w :=
  ⟨o, by simpa using ho, by rw [if_pos hw]; exact h _ (fun a w h1 h2 => ⟨h1, h2⟩)⟩
/-- An operation that is left; what follows stands behind a variable. -/
theorem road_t {i : Nat} {T : Road} {o : Oper} {a : Act} {w : World} (ho : ops.toList[i]? = some o) (hw : Region.wanted o (yielded ops a.tmps) = true)
    (h : ∀ K : Act → World → Prop, Hid (∀ a w, S w → road P ops Q S T a w → K a w) → o.wp P a w K Q) : road P ops Q S (.t i T) a w := ⟨S, fun _ h => h, stepR_t ho hw h⟩
theorem road_ts {i : Nat} {T : Road} {o : Oper} {a : Act} {w : World} (ho : ops.toList[i]? = some o) (hw : Region.wanted o (yielded ops a.tmps) = false) (hS : S w) (h : road P ops Q S T (a.put o.dst undef) w) : road P ops Q S (.t i T) a w :=
  ⟨S, fun _ h => h, o, by simpa using ho, by rw [if_neg (by rw [hw]; simp)]; exact ⟨hS, h⟩⟩
theorem road_tv {i : Nat} {T : Road} {o : Oper} {a : Act} {w : World} {v : Value} (ho : ops.toList[i]? = some o) (hw : Region.wanted o (yielded ops a.tmps) = true) (hS : S w) (hy : (execOp a.eval o).run P w = .ok (.value v) w) (h : road P ops Q S T (a.put o.dst v) w) : road P ops Q S (.t i T) a w :=
  ⟨S, fun _ h => h, o, by simpa using ho, by rw [if_pos hw]; unfold Oper.wp; rw [hy]; exact ⟨hS, h⟩⟩
/-- Two that may come up. -/
theorem road_two {i j : Nat} {T U : Road} {a : Act} {w : World} (h1 : road P ops Q S (.t i T) a w) (h2 : road P ops Q S (.t j U) a w) : road P ops Q S (.two i T j U) a w := by
  obtain ⟨S1, k1, o1, e1, g1⟩ := h1
  obtain ⟨S2, k2, o2, e2, g2⟩ := h2
  have key : ∀ (S' : World → Prop) (hk : ∀ w, S' w → S w) (T : Road) (o : Oper), (if Region.wanted o (yielded ops a.tmps) = true then o.wp P a w (fun a' w' => S' w' ∧ road P ops Q S' T a' w') Q else S' w ∧ road P ops Q S' T (a.put o.dst undef) w) →
      (if Region.wanted o (yielded ops a.tmps) = true then o.wp P a w (fun a' w' => S w' ∧ road P ops Q S T a' w') Q else S w ∧ road P ops Q S T (a.put o.dst undef) w) := by
    intro S' hk T o h
    split
    · rename_i hw
      rw [if_pos hw] at h
      exact Oper.wp_mono (fun a' w' hh => ⟨hk _ hh.1, road_sw S' hk hh.2⟩) h
    · rename_i hw
      rw [if_neg hw] at h
      exact ⟨hk _ h.1, road_sw S' hk h.2⟩
  exact ⟨S, fun _ h => h, ⟨o1, e1, key S1 k1 T o1 g1⟩, ⟨o2, e2, key S2 k2 U o2 g2⟩⟩
theorem road_three {i j k : Nat} {T U V : Road} {a : Act} {w : World} (h1 : road P ops Q S (.t i T) a w) (h2 : road P ops Q S (.t j U) a w) (h3 : road P ops Q S (.t k V) a w) : road P ops Q S (.three i T j U k V) a w := by
  have key : ∀ {i : Nat} {T : Road}, road P ops Q S (.t i T) a w → stepR P ops Q S (road P ops Q S T) i a w := by
    intro i T h
    obtain ⟨S', hk, o, e, h⟩ := h
    refine ⟨o, e, ?_⟩
    split
    · rename_i hw
      rw [if_pos hw] at h
      exact Oper.wp_mono (fun a' w' hh => ⟨hk _ hh.1, road_sw S' hk hh.2⟩) h
    · rename_i hw
      rw [if_neg hw] at h
      exact ⟨hk _ h.1, road_sw S' hk h.2⟩
  exact ⟨S, fun _ h => h, key h1, key h2, key h3⟩
theorem road_done {a : Act} {w : World} (h : Q .normal a w) : road P ops Q S .done a w := h
end
end Go.Proofs.Ytdheopihcohciaa
