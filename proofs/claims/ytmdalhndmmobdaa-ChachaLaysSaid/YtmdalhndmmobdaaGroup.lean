/- A region that draws its order and holds a group of operations that come up in whatever order (allocations beside calls): one proof for each of them, by an invariant that knows which are still to come. No condition but those each theorem states. -/
import Derived.Test.YtmdalhndmmobdaaGPlan
namespace Go.Proofs.Ytmdalhndmmobdaa
set_option linter.unusedVariables false
set_option linter.unusedSimpArgs false
open Go.RowKit

section
variable {P : Program} {ops : Array Oper} {Q : Exit → Act → World → Prop} {S : World → Prop}
def upd (f : Nat → Value) (i : Nat) (v : Value) : Nat → Value := fun j => if j = i then v else f j
/-- Does nothing but the group come up till it is done, whatever the order, and then that road? -/
def grpB (ops : Array Oper) (T : List (Bool × Nat)) : Nat → List Nat → Array Bool → Bool
  | 0, _, _ => false
  | fuel + 1, R, L =>
    match R with
    | [] => planGB ops T L
    | r :: R => !(Region.ready .any ops L).isEmpty && (Region.ready .any ops L).all fun i => (ops[i]?).isSome && (r :: R).contains i && grpB ops T fuel ((r :: R).erase i) (L.setIfInBounds i true)
theorem grp_sound (hQ : ∀ c a d v w, Q (.panic c) (Act.put a d v) w → Q (.panic c) a w) (hs : Region.noSelect ops = true) (T : List (Bool × Nat)) (frame : (Nat → Value) → Act) (Inv : List Nat → (Nat → Value) → World → Prop) (Grp : List Nat)
    (hwant : ∀ i ∈ Grp, ∀ o, ops[i]? = some o → o.guard = none) (hstep : ∀ R vals W i o, ops[i]? = some o → i ∈ R → (∀ j ∈ R, j ∈ Grp) → Inv R vals W → o.wp P (frame vals) W (fun a' w' => ∃ v, a' = frame (upd vals i v) ∧ S w' ∧ Inv (R.erase i) (upd vals i v) w') Q)
    (hend : ∀ vals W, Inv [] vals W → planG P ops Q S (T.filterMap fun i => (ops[i.2]?).map fun o => (i.1, o)) (frame vals) W) :
    ∀ (fuel : Nat) (R : List Nat) (L : Array Bool) (vals : Nat → Value) (W : World) (fuel' : Nat), R.length + T.length ≤ fuel' → (∀ j ∈ R, j ∈ Grp) → grpB ops T fuel R L = true → Inv R vals W → wpAnyH P .any ops Q S fuel' L (frame vals) W
  | 0, _, _, _, _, _, _, _, hB, _ => by simp [grpB] at hB
  | fuel + 1, [], L, vals, W, fuel', hf, _, hB, h => planG_sound hQ hs T S fuel' L _ W (by simpa using hf) (by simpa [grpB] using hB) (hend vals W h)
  | fuel + 1, r :: R, L, vals, W, fuel', hf, hR, hB, h => by
    simp only [grpB, Bool.and_eq_true, Bool.not_eq_true', List.all_eq_true] at hB
    obtain ⟨hne, hall⟩ := hB
    obtain ⟨fuel', rfl⟩ : ∃ m, fuel' = m + 1 := ⟨fuel' - 1, by simp at hf; omega⟩
    refine wpAnyH_all rfl (by intro e; rw [e] at hne; simp at hne) ?_
    intro i hi
    obtain ⟨⟨ho, hc⟩, hB'⟩ := hall i hi
    obtain ⟨o, ho⟩ := Option.isSome_iff_exists.1 ho
    have hiR : i ∈ r :: R := by simpa using hc
    unfold wpOp
    simp only [ho]
    rw [if_pos (by simp [Region.wanted, hwant i (hR i hiR) o ho])]
    refine .inl (Oper.wp_mono ?_ (hstep (r :: R) vals W i o ho hiR hR h))
    rintro a' w' ⟨v, rfl, hS, hI⟩
    refine ⟨hS, grp_sound hQ hs T frame Inv Grp hwant hstep hend fuel ((r :: R).erase i) _ _ w' fuel' ?_ (fun j hj => hR j (List.mem_of_mem_erase hj)) hB' hI⟩
    rw [List.length_erase_of_mem hiR]
    simp at hf ⊢
    omega
/-- What is asked where the group begins. -/
def groupOK (P : Program) (ops : Array Oper) (Q : Exit → Act → World → Prop) (S : World → Prop) (Grp : List Nat) (T : List (Bool × Nat)) (a : Act) (w : World) : Prop :=
  ∃ (frame : (Nat → Value) → Act) (Inv : List Nat → (Nat → Value) → World → Prop) (vals : Nat → Value), a = frame vals ∧ Inv Grp vals w ∧
    (∀ R vals W i o, ops[i]? = some o → i ∈ R → (∀ j ∈ R, j ∈ Grp) → Inv R vals W → o.wp P (frame vals) W (fun a' w' => ∃ v, a' = frame (upd vals i v) ∧ S w' ∧ Inv (R.erase i) (upd vals i v) w') Q) ∧
    (∀ vals W, Inv [] vals W → planG P ops Q S (T.filterMap fun i => (ops[i.2]?).map fun o => (i.1, o)) (frame vals) W)
/-- May these be taken first, then the group, then that road? -/
def planGrpB (ops : Array Oper) (Grp : List Nat) (T : List (Bool × Nat)) : List Nat → Array Bool → Bool
  | [], L => grpB ops T (Grp.length + 1) Grp L
  | i :: H, L => (ops[i]?).isSome && Region.free .any ops L i && (Region.ready .any ops L).contains i && planGrpB ops Grp T H (L.setIfInBounds i true)
theorem planGrp_sound (hQ : ∀ c a d v w, Q (.panic c) (Act.put a d v) w → Q (.panic c) a w) (hs : Region.noSelect ops = true) (Grp : List Nat) (T : List (Bool × Nat)) (hwant : ∀ i ∈ Grp, ∀ o, ops[i]? = some o → o.guard = none) (w : World) (hS : S w) : ∀ (H : List Nat) (fuel : Nat) (L : Array Bool) (a : Act), H.length + (Grp.length + T.length) ≤ fuel → planGrpB ops Grp T H L = true →
    planQ P ops S (fun a' => groupOK P ops Q S Grp T a' w) (H.filterMap fun i => ops[i]?) a → wpAnyH P .any ops Q S fuel L a w
  | [], fuel, L, a, hf, hB, h => by
    obtain ⟨frame, Inv, vals, rfl, h0, hstep, hend⟩ := h
    exact grp_sound hQ hs T frame Inv Grp hwant hstep hend _ Grp L vals w fuel (by simpa using hf) (fun j hj => hj) hB h0
  | i :: H, fuel, L, a, hf, hB, h => by
    simp only [planGrpB, Bool.and_eq_true] at hB
    obtain ⟨⟨⟨hi, hfr⟩, hr⟩, hB'⟩ := hB
    obtain ⟨o, ho⟩ := Option.isSome_iff_exists.1 hi
    obtain ⟨fuel, rfl⟩ : ∃ m, fuel = m + 1 := ⟨fuel - 1, by simp at hf; omega⟩
    have e : (i :: H).filterMap (fun i => ops[i]?) = o :: H.filterMap fun i => ops[i]? := by simp [ho]
    rw [e] at h
    obtain ⟨v, hy, h'⟩ := h
    exact wpAnyH_take ho hs hfr hr (fun c a w hh => hQ c a _ _ w hh) hy hS (planGrp_sound hQ hs Grp T hwant w hS H fuel _ _ (by simp at hf ⊢; omega) hB' h')
/-- THE LAW. -/
theorem wp_region_group {id : Nat} {l : List Oper} {a : Act} {w : World} (S : World → Prop) (H Grp : List Nat) (T : List (Bool × Nat)) (hm : P.follows .mixedOrders = true)
    (hB : (planGrpB l.toArray Grp T H (Array.replicate l.toArray.size false) && Region.noSelect l.toArray && Nat.ble (H.length + (Grp.length + T.length)) l.toArray.size && Grp.all fun i => match l.toArray[i]? with | some o => o.guard.isNone | none => false) = true)
    (hQ : ∀ c a d v w, Q (.panic c) (Act.put a d v) w → Q (.panic c) a w) (hS : S w.drew)
    (h : planQ P l.toArray S (fun a' => groupOK P l.toArray Q S Grp T a' w.drew) (H.filterMap fun i => l.toArray[i]?) a) : (Code.region id l.toArray true).wp P Q a w := by
  simp only [Bool.and_eq_true] at hB
  refine wp_region_held hm (planGrp_sound hQ hB.1.1.2 Grp T ?_ w.drew hS H _ _ a (Nat.le_of_ble_eq_true hB.1.2) hB.1.1.1 h)
  intro i hi o ho
  have := List.all_eq_true.1 hB.2 i hi
  rw [ho] at this
  simpa using this
/-- One after the other of the group. -/
theorem erase_not {R : List Nat} {i j : Nat} (h : j ∉ R.erase i) : j = i ∨ j ∉ R := by
  by_cases e : j = i
  · exact .inl e
  · exact .inr (fun hj => h ((List.mem_erase_of_ne e).2 hj))
end
end Go.Proofs.Ytmdalhndmmobdaa
