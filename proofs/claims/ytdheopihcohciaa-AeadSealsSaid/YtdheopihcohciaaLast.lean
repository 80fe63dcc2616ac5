/- A region that draws its order and ends with one operation that waits for all that were taken first (a store into what they read): the class of worlds is asked only ahead of it. No condition but those each theorem states. -/
import Derived.Test.YtdheopihcohciaaGPlan
import Derived.Test.YtdheopihcohciaaOps
namespace Go.Proofs.Ytdheopihcohciaa
set_option linter.unusedVariables false
set_option linter.unusedSimpArgs false
open Go.RowKit

/-- A whole row into a block that is known whole. -/
theorem storeW_wp {P : Program} {o : Oper} {a : Act} {Q : Exit → Act → World → Prop} {W : World} {K : Act → World → Prop} (ty : TypeId) (x y : Operand) (ho : o.op = .store ty x y) (g : Nat) (cells : Array Value) (hx : a.eval x = .pointer (some ⟨g, 0, none⟩)) (hy : a.eval y = .agg cells)
    (cur : Array Value) (t : TypeId) (hg : W.heap[g]? = some (.cells cur t (0, 0))) (hi : (P.info? ty).map (·.size) = some cells.size) (hl : cur.size = cells.size) (h1 : cells.all (·.oneCell') = true)
    (h : ∀ w', w'.heap[g]? = some (.cells cells t (0, 0)) → W.grownBy w' (some g) → w'.heap.size = W.heap.size → K (a.put o.dst undef) w') : o.wp P a W K Q := by
  refine storeM_wp ty x y ho g 0 cells hx hy cur t hg hi (by omega) h1 (fun w' hz => ?_)
  refine h w' ?_
  rw [hz, Nat.zero_add, List.take_zero, List.nil_append, List.drop_of_length_le (by simp; omega), List.append_nil]
section
variable {P : Program} {ops : Array Oper} {Q : Exit → Act → World → Prop} {S : World → Prop} {s : Nat}
/-- Has the last one come up, or does the class hold? -/
def Yet (s : Nat) (S : World → Prop) (L : Array Bool) (w : World) : Prop := L.getD s true = true ∨ S w
/-- Whatever order is picked, the class holding till the last one has come up. -/
def wpTill (P : Program) (ops : Array Oper) (Q : Exit → Act → World → Prop) (S : World → Prop) (s : Nat) : Nat → Array Bool → Act → World → Prop
  | 0, L, a, w => Region.ready .any ops L = [] ∧ Q .normal a w
  | n + 1, L, a, w => (Region.ready .any ops L = [] → Q .normal a w) ∧ ∀ i ∈ Region.ready .any ops L, wpOp P ops Q i (fun a' w' => Yet s S (L.setIfInBounds i true) w' ∧ wpTill P ops Q S s n (L.setIfInBounds i true) a' w') a w
theorem wpAny_of_till : ∀ (n : Nat) (L : Array Bool) (a : Act) (w : World), wpTill P ops Q S s n L a w → wpAny P .any ops Q n L a w
  | 0, _, _, _, h => h
  | n + 1, _, _, _, h => ⟨h.1, fun i hi => wpOp_mono (fun _ _ k => wpAny_of_till n _ _ _ k.2) (h.2 i hi)⟩
theorem wpTill_narrow {S' : World → Prop} (hSS : ∀ w, S' w → S w) : ∀ (n : Nat) (L : Array Bool) (a : Act) (w : World), wpTill P ops Q S' s n L a w → wpTill P ops Q S s n L a w
  | 0, _, _, _, h => h
  | n + 1, _, _, _, h => ⟨h.1, fun i hi => wpOp_mono (fun _ _ k => ⟨k.1.imp id (hSS _), wpTill_narrow hSS n _ _ _ k.2⟩) (h.2 i hi)⟩
theorem not_ready_twice {L : Array Bool} {i : Nat} (hi : i ∈ Region.ready .any ops L) {e : Edge} (he : e.on = i) (h : Region.binds .any e = true → L.getD e.on false = true) (hb : Region.binds .any e = true) : False := by
  have h0 := (mem_ready.1 hi).1
  have h1 := h hb
  rw [he] at h1
  by_cases hs : i < L.size
  · simp [Array.getD, hs] at h0 h1
    rw [h0] at h1
    cases h1
  · simp [Array.getD, hs] at h1
/-- One that yields its value in every world of the class, and for which the last one waits, may be taken first. -/
theorem wpTill_take {i : Nat} {oi os : Oper} {v : Value} (hi : ops[i]? = some oi) (hos : ops[s]? = some os) (hwait : ∃ e ∈ os.after, Region.binds .any e = true ∧ e.on = i) (hsel : ∀ (j : Nat) (o : Oper) cs b, ops[j]? = some o → o.op ≠ .select cs b)
    (hQ : ∀ c a w, Q (.panic c) (a.put oi.dst v) w → Q (.panic c) a w) : ∀ (n : Nat) (L : Array Bool) (a : Act) (w : World), L.getD s true = false → i ≠ s →
      (∀ j oj, ops[j]? = some oj → j ≠ i → L.getD j true = false → (∀ e ∈ oj.after, Region.binds .any e = true → e.on ≠ i) → oi.apart ops oj = true) →
      i ∈ Region.ready .any ops L → YieldsIf P ops S oi v a → S w → wpTill P ops Q S s n (L.setIfInBounds i true) (a.put oi.dst v) w → wpTill P ops Q S s (n + 1) L a w := by
  intro n
  induction n with
  | zero =>
    intro L a w hsL his hap hr hy hS H
    refine ⟨(fun e => by rw [e] at hr; cases hr), fun j hj => ?_⟩
    rcases Nat.decEq j i with hne | rfl
    · have hm := ready_mono hj hne
      rw [H.1] at hm
      cases hm
    · exact hy.wpOp hi hS ⟨.inr hS, H⟩
  | succ n ih =>
    intro L a w hsL his hap hr hy hS H
    refine ⟨(fun e => by rw [e] at hr; cases hr), fun j hj => ?_⟩
    rcases Nat.decEq j i with hne | rfl
    · obtain ⟨hjL, oj, hoj, hedges⟩ := mem_ready.1 hj
      have hjs : j ≠ s := by
        rintro rfl
        rw [hos] at hoj
        cases hoj
        obtain ⟨e, he, hb, hon⟩ := hwait
        exact not_ready_twice hr hon (hedges e he) hb
      have hfree : ∀ e ∈ oj.after, Region.binds .any e = true → e.on ≠ i := fun e he hb hon => not_ready_twice hr hon (hedges e he) hb
      have K := wpOp_putIf hoj (hap j oj hoj hne hjL hfree) (fun cs b => hsel i oi cs b hi) (fun cs b => hsel j oj cs b hoj) hQ hy (H.2 j (ready_mono hj hne))
      refine wpOp_mono (fun a' w' hk => ?_) K
      obtain ⟨hy', hyet, hrest⟩ := hk
      have hsj : (L.setIfInBounds j true).getD s true = false := by rw [getD_set_ne true hjs]; exact hsL
      have hS' : S w' := by
        rcases hyet with h1 | h1
        · rw [getD_set_ne true hjs, getD_set_ne true his] at h1
          rw [hsL] at h1
          cases h1
        · exact h1
      refine ⟨.inr hS', ih (L.setIfInBounds j true) a' w' hsj his (fun k ok hk hki hkL hkf => ?_) (ready_mono hr (Ne.symm hne)) hy' hS' ?_⟩
      · refine hap k ok hk hki ?_ hkf
        rcases Nat.decEq j k with h2 | rfl
        · rwa [getD_set_ne true h2] at hkL
        · exact hjL
      · rw [Array.setIfInBounds_comm _ _ hne]
        exact hrest
    · exact hy.wpOp hi hS ⟨.inr hS, H⟩
/-- May this road be taken, and does the last one come up alone behind it? -/
def tillB (ops : Array Oper) (s : Nat) : List (Bool × Nat) → Array Bool → Bool
  | [], L => (match Region.ready .any ops L with | [j] => Nat.beq j s | _ => false) && (Region.ready .any ops (L.setIfInBounds s true)).isEmpty && (match ops[s]? with | some o => o.guard.isNone | none => false)
  | (true, i) :: T, L => (ops[i]?).isSome && Region.free .any ops L i && (Region.ready .any ops L).contains i && !(L.getD s true) && !(Nat.beq i s) && (match ops[s]? with | some o => o.after.toList.any (fun e => Region.binds .any e && Nat.beq e.on i) | none => false) && tillB ops s T (L.setIfInBounds i true)
  | (false, i) :: T, L => (ops[i]?).isSome && (match Region.ready .any ops L with | [j] => Nat.beq j i | _ => false) && tillB ops s T (L.setIfInBounds i true)
/-- The road. -/
def till (P : Program) (ops : Array Oper) (Q : Exit → Act → World → Prop) (os : Oper) : (World → Prop) → List (Bool × Oper) → Act → World → Prop
  | _, [], a, w => os.wp P a w (fun a' w' => Q .normal a' w') Q
  | S, (true, o) :: r, a, w => ∃ S' : World → Prop, (∀ w, S' w → S w) ∧ S' w ∧ ∃ v, YieldsIf P ops S' o v a ∧ till P ops Q os S' r (a.put o.dst v) w
  | S, (false, o) :: r, a, w => ∃ S' : World → Prop, (∀ w, S' w → S w) ∧ if Region.wanted o (yielded ops a.tmps) = true then o.wp P a w (fun a' w' => S' w' ∧ till P ops Q os S' r a' w') Q else S' w ∧ till P ops Q os S' r (a.put o.dst undef) w
theorem till_sound {os : Oper} (hos : ops[s]? = some os) (hQ : ∀ c a d v w, Q (.panic c) (Act.put a d v) w → Q (.panic c) a w) (hs : Region.noSelect ops = true) : ∀ (T : List (Bool × Nat)) (S : World → Prop) (n : Nat) (L : Array Bool) (a : Act) (w : World), T.length + 1 ≤ n → tillB ops s T L = true →
    till P ops Q os S (T.filterMap fun i => (ops[i.2]?).map fun o => (i.1, o)) a w → wpTill P ops Q S s n L a w
  | [], S, n, L, a, w, hf, hB, h => by
    simp only [tillB, Bool.and_eq_true] at hB
    obtain ⟨⟨hr0, hend⟩, hg⟩ := hB
    have hr : Region.ready .any ops L = [s] := by
      split at hr0
      · rename_i j hj
        rw [hj, Nat.eq_of_beq_eq_true hr0]
      · cases hr0
    rw [hos] at hg
    obtain ⟨n, rfl⟩ : ∃ m, n = m + 1 := ⟨n - 1, by simp at hf; omega⟩
    have hend' : Region.ready .any ops (L.setIfInBounds s true) = [] := by simpa using hend
    refine ⟨(fun e => by rw [hr] at e; cases e), fun j hj => ?_⟩
    rw [hr] at hj
    obtain rfl : j = s := by simpa using hj
    unfold wpOp
    simp only [hos]
    have hgn : os.guard = none := by simpa using hg
    rw [if_pos (by simp [Region.wanted, hgn])]
    refine .inl (Oper.wp_mono (fun a' w' hk => ⟨.inl ?_, ?_⟩) h)
    · by_cases hsz : j < L.size
      · simp [hsz]
      · simp [hsz]
    · cases n with
      | zero => exact ⟨hend', hk⟩
      | succ n => exact ⟨fun _ => hk, (fun i hi => by rw [hend'] at hi; cases hi)⟩
  | (true, i) :: T, S, n, L, a, w, hf, hB, h => by
    simp only [tillB, Bool.and_eq_true] at hB
    obtain ⟨⟨⟨⟨⟨⟨hi, hfr⟩, hr⟩, hsL⟩, hne⟩, hw⟩, hB'⟩ := hB
    obtain ⟨o, ho⟩ := Option.isSome_iff_exists.1 hi
    obtain ⟨n, rfl⟩ : ∃ m, n = m + 1 := ⟨n - 1, by simp at hf; omega⟩
    have e : ((true, i) :: T).filterMap (fun i => (ops[i.2]?).map fun o => (i.1, o)) = (true, o) :: T.filterMap fun i => (ops[i.2]?).map fun o => (i.1, o) := by simp [ho]
    rw [e] at h
    obtain ⟨S', hSS, hS, v, hy, h'⟩ := h
    rw [hos] at hw
    obtain ⟨ed, hed, hb⟩ := List.any_eq_true.1 hw
    simp only [Bool.and_eq_true] at hb
    exact wpTill_narrow hSS _ _ _ _ (wpTill_take ho hos ⟨ed, by simpa using hed, hb.1, Nat.eq_of_beq_eq_true hb.2⟩ (Region.noSelect_spec hs) (fun c a w hh => hQ c a _ _ w hh) n L a w (by simpa using hsL) (by intro e; subst e; simp at hne) (Region.free_spec ho hfr) (by simpa using hr) hy hS
      (till_sound hos hQ hs T S' n _ _ w (by simp at hf ⊢; omega) hB' h'))
  | (false, i) :: T, S, n, L, a, w, hf, hB, h => by
    simp only [tillB, Bool.and_eq_true] at hB
    obtain ⟨⟨hi, hr0⟩, hB'⟩ := hB
    have hr : Region.ready .any ops L = [i] := by
      split at hr0
      · rename_i j hj
        rw [hj, Nat.eq_of_beq_eq_true hr0]
      · cases hr0
    obtain ⟨o, ho⟩ := Option.isSome_iff_exists.1 hi
    obtain ⟨n, rfl⟩ : ∃ m, n = m + 1 := ⟨n - 1, by simp at hf; omega⟩
    have e : ((false, i) :: T).filterMap (fun i => (ops[i.2]?).map fun o => (i.1, o)) = (false, o) :: T.filterMap fun i => (ops[i.2]?).map fun o => (i.1, o) := by simp [ho]
    rw [e] at h
    obtain ⟨S', hSS, h⟩ := h
    refine wpTill_narrow hSS _ _ _ _ ⟨(fun e => by rw [hr] at e; cases e), fun j hj => ?_⟩
    rw [hr] at hj
    obtain rfl : j = i := by simpa using hj
    unfold wpOp
    simp only [ho]
    split
    · rename_i hw
      rw [if_pos hw] at h
      exact .inl (Oper.wp_mono (fun a' w' hh => ⟨.inr hh.1, till_sound hos hQ hs T S' n _ a' w' (by simp at hf; omega) hB' hh.2⟩) h)
    · rename_i hw
      rw [if_neg hw] at h
      exact ⟨.inr h.1, till_sound hos hQ hs T S' n _ _ w (by simp at hf; omega) hB' h.2⟩
/-- THE LAW. -/
theorem wp_region_till {id : Nat} {l : List Oper} {a : Act} {w : World} (S : World → Prop) (s : Nat) (T : List (Bool × Nat)) (os : Oper) (hm : P.follows .mixedOrders = true)
    (hB : (tillB l.toArray s T (Array.replicate l.toArray.size false) && Region.noSelect l.toArray && Nat.ble (T.length + 1) l.toArray.size) = true)
    (hos : l.toArray[s]? = some os) (hQ : ∀ c a d v w, Q (.panic c) (Act.put a d v) w → Q (.panic c) a w)
    (h : till P l.toArray Q os S (T.filterMap fun i => (l.toArray[i.2]?).map fun o => (i.1, o)) a w.drew) : (Code.region id l.toArray true).wp P Q a w := by
  simp only [Bool.and_eq_true] at hB
  exact wp_region_any hm (wpAny_of_till _ _ _ _ (till_sound hos hQ hB.1.2 T S _ _ a w.drew (Nat.le_of_ble_eq_true hB.2) hB.1.1 h))
theorem till_q {os o : Oper} {rest : List (Bool × Oper)} {a : Act} {w : World} {v : Value} (hw : Region.wanted o (yielded ops a.tmps) = true) (hS : S w) (hy : ∀ w, S w → (execOp a.eval o).run P w = .ok (.value v) w) (h : till P ops Q os S rest (a.put o.dst v) w) : till P ops Q os S ((true, o) :: rest) a w := ⟨S, fun _ h => h, hS, v, .inl ⟨hw, hy⟩, h⟩
theorem till_qs {os o : Oper} {rest : List (Bool × Oper)} {a : Act} {w : World} (hw : Region.wanted o (yielded ops a.tmps) = false) (hS : S w) (h : till P ops Q os S rest (a.put o.dst undef) w) : till P ops Q os S ((true, o) :: rest) a w := ⟨S, fun _ h => h, hS, undef, .inr ⟨hw, rfl⟩, h⟩
theorem till_sw {os : Oper} (S' : World → Prop) {l : List (Bool × Oper)} {a : Act} {w : World} (hSS : ∀ w, S' w → S w) (h : till P ops Q os S' l a w) : till P ops Q os S l a w := by
  rcases l with _ | ⟨⟨_ | _, o⟩, r⟩
  · exact h
  · obtain ⟨T, h1, h2⟩ := h
    exact ⟨T, fun w h => hSS w (h1 w h), h2⟩
  · obtain ⟨T, h1, h2⟩ := h
    exact ⟨T, fun w h => hSS w (h1 w h), h2⟩
theorem till_t {os o : Oper} {rest : List (Bool × Oper)} {a : Act} {w : World} (hw : Region.wanted o (yielded ops a.tmps) = true)
    (h : ∀ K : Act → World → Prop, Hid (∀ a w, S w → till P ops Q os S rest a w → K a w) → o.wp P a w K Q) : till P ops Q os S ((false, o) :: rest) a w := by
  refine ⟨S, fun _ h => h, ?_⟩
  rw [if_pos hw]
  exact h _ (fun a w h1 h2 => ⟨h1, h2⟩)
theorem till_tv {os o : Oper} {rest : List (Bool × Oper)} {a : Act} {w : World} {v : Value} (hw : Region.wanted o (yielded ops a.tmps) = true) (hS : S w) (hy : (execOp a.eval o).run P w = .ok (.value v) w) (h : till P ops Q os S rest (a.put o.dst v) w) : till P ops Q os S ((false, o) :: rest) a w := by
  refine ⟨S, fun _ h => h, ?_⟩
  rw [if_pos hw]
  unfold Oper.wp
  rw [hy]
  exact ⟨hS, h⟩
/-- The last one. -/
theorem till_last {os : Oper} {a : Act} {w : World} (h : ∀ K : Act → World → Prop, Hid (∀ a w, Q .normal a w → K a w) → os.wp P a w K Q) : till P ops Q os S [] a w := h _ (fun _ _ h => h)
end
end Go.Proofs.Ytdheopihcohciaa
