/- A region that draws its order, walked once: what only reads is taken first, in every world that keeps what was there; what is left comes up one by one. No condition but those each theorem states. -/
import Derived.Test.YtihllbhmnkckaaaDoorBase
import Derived.OrdersHeld
namespace Go.Proofs.YtihllbhmnkckaaaDoor
set_option linter.unusedVariables false
set_option linter.unusedSimpArgs false
open Go.RowKit

section
variable {P : Program} {ops : Array Oper} {Q : Exit → Act → World → Prop} {S : World → Prop}
/-- Do these come up alone, one by one? -/
def planTB (ops : Array Oper) : List Nat → Array Bool → Bool
  | i :: T, L => (ops[i]?).isSome && (match Region.ready .any ops L with | [j] => Nat.beq j i | _ => false) && planTB ops T (L.setIfInBounds i true)
  | [], L => (Region.ready .any ops L).isEmpty
/-- May these be taken first, one by one, and do those then come up alone, one by one? -/
def planB (ops : Array Oper) : List Nat → List Nat → Array Bool → Bool
  | i :: H, T, L => (ops[i]?).isSome && Region.free .any ops L i && (Region.ready .any ops L).contains i && planB ops H T (L.setIfInBounds i true)
  | [], T, L => planTB ops T L
/-- What is left, one by one. -/
def planT (P : Program) (ops : Array Oper) (Q : Exit → Act → World → Prop) (S : World → Prop) : List Oper → Act → World → Prop
  | [], a, w => Q .normal a w
  | o :: rest, a, w => if Region.wanted o (yielded ops a.tmps) = true then o.wp P a w (fun a' w' => S w' ∧ planT P ops Q S rest a' w') Q else S w ∧ planT P ops Q S rest (a.put o.dst undef) w
/-- What is taken first. -/
def planQ (P : Program) (ops : Array Oper) (S : World → Prop) (R : Act → Prop) : List Oper → Act → Prop
  | [], a => R a
  | o :: rest, a => ∃ v, YieldsIf P ops S o v a ∧ planQ P ops S R rest (a.put o.dst v)

theorem planT_sound : ∀ (T : List Nat) (fuel : Nat) (L : Array Bool) (a : Act) (w : World), T.length ≤ fuel → planTB ops T L = true →
    planT P ops Q S (T.filterMap fun i => ops[i]?) a w → wpAnyH P .any ops Q S fuel L a w
  | [], fuel, L, a, w, _, hB, h => by
    simp only [planTB, List.isEmpty_iff] at hB
    exact wpAnyH_done hB h fuel
  | i :: T, fuel, L, a, w, hf, hB, h => by
    simp only [planTB, Bool.and_eq_true] at hB
    obtain ⟨⟨hi, hr0⟩, hB'⟩ := hB
    have hr : Region.ready .any ops L = [i] := by
      split at hr0
      · rename_i j hj
        rw [hj, Nat.eq_of_beq_eq_true hr0]
      · cases hr0
    obtain ⟨o, ho⟩ := Option.isSome_iff_exists.1 hi
    obtain ⟨fuel, rfl⟩ : ∃ m, fuel = m + 1 := ⟨fuel - 1, by simp at hf; omega⟩
    have e : (i :: T).filterMap (fun i => ops[i]?) = o :: T.filterMap fun i => ops[i]? := by simp [ho]
    rw [e] at h
    refine wpAnyH_all hr (by simp) ?_
    intro j hj
    obtain rfl : j = i := by simpa using hj
    unfold wpOp
    simp only [ho]
    unfold planT at h
    split
    · rename_i hw
      rw [if_pos hw] at h
      refine .inl ?_
      exact Oper.wp_mono (fun a' w' hh => ⟨hh.1, planT_sound T fuel _ a' w' (by simp at hf; omega) hB' hh.2⟩) h
    · rename_i hw
      rw [if_neg hw] at h
      exact ⟨h.1, planT_sound T fuel _ _ w (by simp at hf; omega) hB' h.2⟩
theorem planQ_sound (hQ : ∀ c a d v w, Q (.panic c) (Act.put a d v) w → Q (.panic c) a w) (hs : Region.noSelect ops = true) (T : List Nat) (w : World) (hS : S w) : ∀ (H : List Nat) (fuel : Nat) (L : Array Bool) (a : Act), H.length + T.length ≤ fuel → planB ops H T L = true →
    planQ P ops S (fun a' => planT P ops Q S (T.filterMap fun i => ops[i]?) a' w) (H.filterMap fun i => ops[i]?) a → wpAnyH P .any ops Q S fuel L a w
  | [], fuel, L, a, hf, hB, h => planT_sound T fuel L a w (by simpa using hf) hB h
  | i :: H, fuel, L, a, hf, hB, h => by
    simp only [planB, Bool.and_eq_true] at hB
    obtain ⟨⟨⟨hi, hfr⟩, hr⟩, hB'⟩ := hB
    obtain ⟨o, ho⟩ := Option.isSome_iff_exists.1 hi
    obtain ⟨fuel, rfl⟩ : ∃ m, fuel = m + 1 := ⟨fuel - 1, by simp at hf; omega⟩
    have e : (i :: H).filterMap (fun i => ops[i]?) = o :: H.filterMap fun i => ops[i]? := by simp [ho]
    rw [e] at h
    obtain ⟨v, hy, h'⟩ := h
    exact wpAnyH_take ho hs hfr hr (fun c a w hh => hQ c a _ _ w hh) hy hS (planQ_sound hQ hs T w hS H fuel _ _ (by simp at hf ⊢; omega) hB' h')
/-- THE LAW. -/
theorem wp_region_plan {id : Nat} {l : List Oper} {a : Act} {w : World} (S : World → Prop) (H T : List Nat) (hm : P.follows .mixedOrders = true)
    (hB : (planB l.toArray H T (Array.replicate l.toArray.size false) && Region.noSelect l.toArray && Nat.ble (H.length + T.length) l.toArray.size) = true)
    (hQ : ∀ c a d v w, Q (.panic c) (Act.put a d v) w → Q (.panic c) a w) (hS : S w.drew)
    (h : planQ P l.toArray S (fun a' => planT P l.toArray Q S (T.filterMap fun i => l.toArray[i]?) a' w.drew) (H.filterMap fun i => l.toArray[i]?) a) : (Code.region id l.toArray true).wp P Q a w := by
  simp only [Bool.and_eq_true] at hB
  exact wp_region_held hm (planQ_sound hQ hB.1.2 T w.drew hS H _ _ a (Nat.le_of_ble_eq_true hB.2) hB.1.1 h)
theorem planQ_cons {R : Act → Prop} {o : Oper} {rest : List Oper} {a : Act} {v : Value} (hw : Region.wanted o (yielded ops a.tmps) = true) (hy : ∀ w, S w → (execOp a.eval o).run P w = .ok (.value v) w) (h : planQ P ops S R rest (a.put o.dst v)) : planQ P ops S R (o :: rest) a := ⟨v, .inl ⟨hw, hy⟩, h⟩
theorem planQ_skip {R : Act → Prop} {o : Oper} {rest : List Oper} {a : Act} (hw : Region.wanted o (yielded ops a.tmps) = false) (h : planQ P ops S R rest (a.put o.dst undef)) : planQ P ops S R (o :: rest) a := ⟨undef, .inr ⟨hw, rfl⟩, h⟩
theorem planQ_nil {R : Act → Prop} {a : Act} (h : R a) : planQ P ops S R [] a := h
/-- An operation that is left, what follows behind a variable. -/
theorem planT_cons {o : Oper} {rest : List Oper} {a : Act} {w : World} (hw : Region.wanted o (yielded ops a.tmps) = true)
    (h : ∀ K : Act → World → Prop, Hid (∀ a w, S w → planT P ops Q S rest a w → K a w) → o.wp P a w K Q) : planT P ops Q S (o :: rest) a w := by
  unfold planT
  rw [if_pos hw]
  exact h _ (fun a w h1 h2 => ⟨h1, h2⟩)
theorem planT_skip {o : Oper} {rest : List Oper} {a : Act} {w : World} (hw : Region.wanted o (yielded ops a.tmps) = false) (hS : S w) (h : planT P ops Q S rest (a.put o.dst undef) w) : planT P ops Q S (o :: rest) a w := by
  unfold planT
  rw [if_neg (by rw [hw]; simp)]
  exact ⟨hS, h⟩
/-- An operation that is left and yields its value where it stands. -/
theorem planT_val {o : Oper} {rest : List Oper} {a : Act} {w : World} {v : Value} (hw : Region.wanted o (yielded ops a.tmps) = true) (hS : S w) (hy : (execOp a.eval o).run P w = .ok (.value v) w) (h : planT P ops Q S rest (a.put o.dst v) w) : planT P ops Q S (o :: rest) a w := by
  unfold planT
  rw [if_pos hw]
  unfold Oper.wp
  rw [hy]
  exact ⟨hS, h⟩
theorem planT_nil {a : Act} {w : World} (h : Q .normal a w) : planT P ops Q S [] a w := h
end
end Go.Proofs.YtihllbhmnkckaaaDoor
