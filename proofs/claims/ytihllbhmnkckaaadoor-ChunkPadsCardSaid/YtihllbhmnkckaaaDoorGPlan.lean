/- A region that draws its order, walked once along one road: what only reads is taken as it comes, in every world of a class that may grow narrower on the way; what is left comes up alone. No condition but those each theorem states. -/
import Derived.Test.YtihllbhmnkckaaaDoorPlan
namespace Go.Proofs.YtihllbhmnkckaaaDoor
set_option linter.unusedVariables false
set_option linter.unusedSimpArgs false
open Go.RowKit

section
variable {P : Program} {ops : Array Oper} {Q : Exit → Act → World → Prop} {S : World → Prop}
theorem wpAnyH_narrow {md : Region.Mode} {S' : World → Prop} (hSS : ∀ w, S' w → S w) : ∀ (fuel : Nat) (L : Array Bool) (a : Act) (w : World), wpAnyH P md ops Q S' fuel L a w → wpAnyH P md ops Q S fuel L a w
  | 0, _, _, _, h => h
  | fuel + 1, _, _, _, h => ⟨h.1, fun i hi => wpOp_mono (fun a' w' h' => ⟨hSS _ h'.1, wpAnyH_narrow hSS fuel _ a' w' h'.2⟩) (h.2 i hi)⟩
/-- May this road be taken? -/
def planGB (ops : Array Oper) : List (Bool × Nat) → Array Bool → Bool
  | [], L => (Region.ready .any ops L).isEmpty
  | (true, i) :: T, L => (ops[i]?).isSome && Region.free .any ops L i && (Region.ready .any ops L).contains i && planGB ops T (L.setIfInBounds i true)
  | (false, i) :: T, L => (ops[i]?).isSome && (match Region.ready .any ops L with | [j] => Nat.beq j i | _ => false) && planGB ops T (L.setIfInBounds i true)
/-- The road. -/
def planG (P : Program) (ops : Array Oper) (Q : Exit → Act → World → Prop) : (World → Prop) → List (Bool × Oper) → Act → World → Prop
  | _, [], a, w => Q .normal a w
  | S, (true, o) :: r, a, w => ∃ S' : World → Prop, (∀ w, S' w → S w) ∧ S' w ∧ ∃ v, YieldsIf P ops S' o v a ∧ planG P ops Q S' r (a.put o.dst v) w
  | S, (false, o) :: r, a, w => ∃ S' : World → Prop, (∀ w, S' w → S w) ∧ if Region.wanted o (yielded ops a.tmps) = true then o.wp P a w (fun a' w' => S' w' ∧ planG P ops Q S' r a' w') Q else S' w ∧ planG P ops Q S' r (a.put o.dst undef) w
theorem planG_sound (hQ : ∀ c a d v w, Q (.panic c) (Act.put a d v) w → Q (.panic c) a w) (hs : Region.noSelect ops = true) : ∀ (T : List (Bool × Nat)) (S : World → Prop) (fuel : Nat) (L : Array Bool) (a : Act) (w : World), T.length ≤ fuel → planGB ops T L = true →
    planG P ops Q S (T.filterMap fun i => (ops[i.2]?).map fun o => (i.1, o)) a w → wpAnyH P .any ops Q S fuel L a w
  | [], S, fuel, L, a, w, _, hB, h => by
    simp only [planGB, List.isEmpty_iff] at hB
    exact wpAnyH_done hB h fuel
  | (true, i) :: T, S, fuel, L, a, w, hf, hB, h => by
    simp only [planGB, Bool.and_eq_true] at hB
    obtain ⟨⟨⟨hi, hfr⟩, hr⟩, hB'⟩ := hB
    obtain ⟨o, ho⟩ := Option.isSome_iff_exists.1 hi
    obtain ⟨fuel, rfl⟩ : ∃ m, fuel = m + 1 := ⟨fuel - 1, by simp at hf; omega⟩
    have e : ((true, i) :: T).filterMap (fun i => (ops[i.2]?).map fun o => (i.1, o)) = (true, o) :: T.filterMap fun i => (ops[i.2]?).map fun o => (i.1, o) := by simp [ho]
    rw [e] at h
    obtain ⟨S', hSS, hS, v, hy, h'⟩ := h
    exact wpAnyH_narrow hSS _ _ _ _ (wpAnyH_take ho hs hfr hr (fun c a w hh => hQ c a _ _ w hh) hy hS (planG_sound hQ hs T S' fuel _ _ w (by simp at hf ⊢; omega) hB' h'))
  | (false, i) :: T, S, fuel, L, a, w, hf, hB, h => by
    simp only [planGB, Bool.and_eq_true] at hB
    obtain ⟨⟨hi, hr0⟩, hB'⟩ := hB
    have hr : Region.ready .any ops L = [i] := by
      split at hr0
      · rename_i j hj
        rw [hj, Nat.eq_of_beq_eq_true hr0]
      · cases hr0
    obtain ⟨o, ho⟩ := Option.isSome_iff_exists.1 hi
    obtain ⟨fuel, rfl⟩ : ∃ m, fuel = m + 1 := ⟨fuel - 1, by simp at hf; omega⟩
    have e : ((false, i) :: T).filterMap (fun i => (ops[i.2]?).map fun o => (i.1, o)) = (false, o) :: T.filterMap fun i => (ops[i.2]?).map fun o => (i.1, o) := by simp [ho]
    rw [e] at h
    obtain ⟨S', hSS, h⟩ := h
    refine wpAnyH_narrow hSS _ _ _ _ (wpAnyH_all hr (by simp) ?_)
    intro j hj
    obtain rfl : j = i := by simpa using hj
    unfold wpOp
    simp only [ho]
    split
    · rename_i hw
      rw [if_pos hw] at h
      refine .inl ?_
      exact Oper.wp_mono (fun a' w' hh => ⟨hh.1, planG_sound hQ hs T S' fuel _ a' w' (by simp at hf; omega) hB' hh.2⟩) h
    · rename_i hw
      rw [if_neg hw] at h
      exact ⟨h.1, planG_sound hQ hs T S' fuel _ _ w (by simp at hf; omega) hB' h.2⟩
/-- THE LAW. -/
theorem wp_region_road {id : Nat} {l : List Oper} {a : Act} {w : World} (S : World → Prop) (T : List (Bool × Nat)) (hm : P.follows .mixedOrders = true)
    (hB : (planGB l.toArray T (Array.replicate l.toArray.size false) && Region.noSelect l.toArray && Nat.ble T.length l.toArray.size) = true)
    (hQ : ∀ c a d v w, Q (.panic c) (Act.put a d v) w → Q (.panic c) a w)
    (h : planG P l.toArray Q S (T.filterMap fun i => (l.toArray[i.2]?).map fun o => (i.1, o)) a w.drew) : (Code.region id l.toArray true).wp P Q a w := by
  simp only [Bool.and_eq_true] at hB
  exact wp_region_held hm (planG_sound hQ hB.1.2 T S _ _ a w.drew (Nat.le_of_ble_eq_true hB.2) hB.1.1 h)
theorem planG_q {o : Oper} {rest : List (Bool × Oper)} {a : Act} {w : World} {v : Value} (hw : Region.wanted o (yielded ops a.tmps) = true) (hS : S w) (hy : ∀ w, S w → (execOp a.eval o).run P w = .ok (.value v) w) (h : planG P ops Q S rest (a.put o.dst v) w) : planG P ops Q S ((true, o) :: rest) a w := ⟨S, fun _ h => h, hS, v, .inl ⟨hw, hy⟩, h⟩
theorem planG_qs {o : Oper} {rest : List (Bool × Oper)} {a : Act} {w : World} (hw : Region.wanted o (yielded ops a.tmps) = false) (hS : S w) (h : planG P ops Q S rest (a.put o.dst undef) w) : planG P ops Q S ((true, o) :: rest) a w := ⟨S, fun _ h => h, hS, undef, .inr ⟨hw, rfl⟩, h⟩
/-- The class grows narrower. -/
theorem planG_sw (S' : World → Prop) {l : List (Bool × Oper)} {a : Act} {w : World} (hSS : ∀ w, S' w → S w) (h : planG P ops Q S' l a w) : planG P ops Q S l a w := by
  rcases l with _ | ⟨⟨_ | _, o⟩, r⟩
  · exact h
  · obtain ⟨T, h1, h2⟩ := h
    exact ⟨T, fun w h => hSS w (h1 w h), h2⟩
  · obtain ⟨T, h1, h2⟩ := h
    exact ⟨T, fun w h => hSS w (h1 w h), h2⟩
/-- An operation that is left; what follows stands behind a variable. -/
theorem planG_t {o : Oper} {rest : List (Bool × Oper)} {a : Act} {w : World} (hw : Region.wanted o (yielded ops a.tmps) = true)
    (h : ∀ K : Act → World → Prop, Hid (∀ a w, S w → planG P ops Q S rest a w → K a w) → o.wp P a w K Q) : planG P ops Q S ((false, o) :: rest) a w := by
  refine ⟨S, fun _ h => h, ?_⟩
  rw [if_pos hw]
  exact h _ (fun a w h1 h2 => ⟨h1, h2⟩)
theorem planG_ts {o : Oper} {rest : List (Bool × Oper)} {a : Act} {w : World} (hw : Region.wanted o (yielded ops a.tmps) = false) (hS : S w) (h : planG P ops Q S rest (a.put o.dst undef) w) : planG P ops Q S ((false, o) :: rest) a w := by
  refine ⟨S, fun _ h => h, ?_⟩
  rw [if_neg (by rw [hw]; simp)]
  exact ⟨hS, h⟩
theorem planG_tv {o : Oper} {rest : List (Bool × Oper)} {a : Act} {w : World} {v : Value} (hw : Region.wanted o (yielded ops a.tmps) = true) (hS : S w) (hy : (execOp a.eval o).run P w = .ok (.value v) w) (h : planG P ops Q S rest (a.put o.dst v) w) : planG P ops Q S ((false, o) :: rest) a w := by
  refine ⟨S, fun _ h => h, ?_⟩
  rw [if_pos hw]
  unfold Oper.wp
  rw [hy]
  exact ⟨hS, h⟩
theorem planG_nil {a : Act} {w : World} (h : Q .normal a w) : planG P ops Q S [] a w := h
end
end Go.Proofs.YtihllbhmnkckaaaDoor
