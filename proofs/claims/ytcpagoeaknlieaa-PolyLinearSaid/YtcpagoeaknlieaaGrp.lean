/- A region that draws its order and holds a group of operations that come up in more than one order (allocations beside calls, a chain of appends): one proof for each of them, by an invariant that knows which are still to come; what each yields is put where it goes. No condition but those each theorem states. -/
import Derived.Test.YtcpagoeaknlieaaGPlan
namespace Go.Proofs.Ytcpagoeaknlieaa
set_option linter.unusedVariables false
set_option linter.unusedSimpArgs false
open Go.RowKit

section
variable {P : Program} {ops : Array Oper} {Q : Exit → Act → World → Prop} {S : World → Prop}
def updV (f : Nat → Value) (i : Nat) (v : Value) : Nat → Value := fun j => if j = i then v else f j
def dstOf (ops : Array Oper) (i : Nat) : Option Tmp := match ops[i]? with | some o => o.dst | none => none
/-- What the group has yielded so far, put where it goes. -/
def putAll (ops : Array Oper) (f : Nat → Value) : List Nat → Act → Act
  | [], a => a
  | i :: l, a => putAll ops f l (a.put (dstOf ops i) (f i))
theorem put_comm (a : Act) {d d' : Tmp} (h : d ≠ d') (v v' : Value) : (a.put (some d) v).put (some d') v' = (a.put (some d') v').put (some d) v := by
  simp only [Act.put, Array.setIfInBounds_comm v v' h]
theorem put_same (a : Act) (d : Tmp) (v v' : Value) : (a.put (some d) v).put (some d) v' = a.put (some d) v' := by
  simp only [Act.put, Array.setIfInBounds_setIfInBounds]
theorem put_self (a : Act) (d : Tmp) : a.put (some d) (a.tmps.getD d undef) = a := by
  have : a.tmps.setIfInBounds d (a.tmps.getD d undef) = a.tmps := by
    apply Array.ext_getElem?
    intro j
    by_cases h : d = j
    · subst h
      simp [Array.getD, Array.getElem?_setIfInBounds_self]
      split <;> simp_all
    · rw [Array.getElem?_setIfInBounds_ne h]
  simp only [Act.put, this]
/-- Every one goes to a place of its own. -/
def dstsB (ops : Array Oper) : List Nat → Bool
  | [] => true
  | i :: l => (match dstOf ops i with | some d => l.all (fun j => match dstOf ops j with | some d' => !Nat.beq d d' | none => false) | none => false) && !l.contains i && dstsB ops l
theorem putAll_put (f : Nat → Value) : ∀ (l : List Nat) (a : Act) (d : Tmp) (v : Value), (∀ j ∈ l, ∃ d', dstOf ops j = some d' ∧ d ≠ d') → (putAll ops f l a).put (some d) v = putAll ops f l (a.put (some d) v)
  | [], _, _, _, _ => rfl
  | j :: l, a, d, v, h => by
    obtain ⟨d', e, hne⟩ := h j (List.mem_cons_self ..)
    rw [putAll, putAll, putAll_put f l _ d v (fun k hk => h k (List.mem_cons_of_mem _ hk)), e, put_comm a hne]
theorem dstsB_cons {i : Nat} {l : List Nat} (h : dstsB ops (i :: l) = true) : ∃ d, dstOf ops i = some d ∧ (∀ j ∈ l, ∃ d', dstOf ops j = some d' ∧ d ≠ d') ∧ i ∉ l ∧ dstsB ops l = true := by
  simp only [dstsB, Bool.and_eq_true] at h
  obtain ⟨⟨h1, h2⟩, h3⟩ := h
  split at h1
  · rename_i d e
    refine ⟨d, e, fun j hj => ?_, by simpa using h2, h3⟩
    have := List.all_eq_true.1 h1 j hj
    split at this
    · rename_i d' e'
      exact ⟨d', e', fun hh => by subst hh; simp at this⟩
    · cases this
  · cases h1
theorem putAll_congr {f g : Nat → Value} : ∀ (l : List Nat) (a : Act), (∀ j ∈ l, f j = g j) → putAll ops f l a = putAll ops g l a
  | [], _, _ => rfl
  | j :: l, a, h => by rw [putAll, putAll, h j (List.mem_cons_self ..), putAll_congr l _ (fun k hk => h k (List.mem_cons_of_mem _ hk))]
theorem putAll_upd (f : Nat → Value) (i : Nat) (v : Value) : ∀ (l : List Nat) (a : Act), dstsB ops l = true → i ∈ l → (putAll ops f l a).put (dstOf ops i) v = putAll ops (updV f i v) l a
  | [], _, _, hi => by cases hi
  | j :: l, a, hB, hi => by
    obtain ⟨d, e, hl, hj, hB'⟩ := dstsB_cons hB
    by_cases h : i = j
    · subst h
      rw [putAll, putAll, e, putAll_put f l _ d v hl, put_same]
      have : updV f i v i = v := by simp [updV]
      rw [this]
      exact putAll_congr l _ (fun k hk => by simp [updV]; intro e; subst e; exact absurd hk hj)
    · have hil : i ∈ l := by rcases List.mem_cons.1 hi with e | e; exact absurd e h; exact e
      have : updV f i v j = f j := by simp [updV]; intro e; exact absurd e.symm h
      rw [putAll, putAll, putAll_upd f i v l _ hB' hil, this]
theorem putAll_init (a : Act) : ∀ (l : List Nat), dstsB ops l = true → putAll ops (fun i => match dstOf ops i with | some d => a.tmps.getD d undef | none => undef) l a = a
  | [], _ => rfl
  | j :: l, hB => by
    obtain ⟨d, e, hl, hj, hB'⟩ := dstsB_cons hB
    rw [putAll, e, put_self, putAll_init a l hB']
/-- What is known of the group: what each of those that have come up yielded, as long as no other one has used it up; the blocks they made are their own. -/
def blkOf : Value → Option Nat
  | .slice (some a) _ _ => some a.block
  | .pointer (some a) => some a.block
  | _ => none
structure GInv (S : World → Prop) (E : Nat) (Grp : List Nat) (cons : Nat → Option Nat) (Post : Nat → Value → World → Prop) (R : List Nat) (vals : Nat → Value) (W : World) : Prop where
  base : S W
  size : E ≤ W.heap.size
  post : ∀ i ∈ Grp, i ∉ R → (∀ k, cons i = some k → k ∈ R) → Post i (vals i) W
  own : ∀ i ∈ Grp, i ∉ R → (∀ k, cons i = some k → k ∈ R) → ∀ g, blkOf (vals i) = some g → E ≤ g ∧ g < W.heap.size
  ne : ∀ i ∈ Grp, ∀ j ∈ Grp, i ≠ j → i ∉ R → j ∉ R → (∀ k, cons i = some k → k ∈ R) → (∀ k, cons j = some k → k ∈ R) → ∀ g, blkOf (vals i) = some g → blkOf (vals j) ≠ some g
theorem not_erase {R : List Nat} {i j : Nat} (h : j ∉ R.erase i) : j = i ∨ j ∉ R := by
  by_cases e : j = i
  · exact .inl e
  · exact .inr (fun hj => h ((List.mem_erase_of_ne e).2 hj))
/-- One comes up that leaves alone what was there. -/
theorem GInv.step {E : Nat} {Grp : List Nat} {cons : Nat → Option Nat} {Post : Nat → Value → World → Prop} {R : List Nat} {vals : Nat → Value} {W W' : World} (h : GInv S E Grp cons Post R vals W) (i : Nat) (v : Value)
    (hb : Below W.heap.size W W') (hS : S W') (hP : Post i v W') (hst : ∀ j v, Post j v W → Post j v W') (hf : ∀ g, blkOf v = some g → W.heap.size ≤ g ∧ g < W'.heap.size) : GInv S E Grp cons Post (R.erase i) (updV vals i v) W' where
  base := hS
  size := Nat.le_trans h.size hb.size
  post := fun j hj hn hc => by
    by_cases e : j = i
    · subst e; simpa [updV] using hP
    · have := not_erase hn
      simp only [updV, if_neg e]
      exact hst j _ (h.post j hj (this.resolve_left e) (fun k hk => List.mem_of_mem_erase (hc k hk)))
  own := fun j hj hn hc g hg => by
    by_cases e : j = i
    · subst e
      simp only [updV, if_true] at hg
      have := hf g hg
      have := h.size
      omega
    · simp only [updV, if_neg e] at hg
      have := h.own j hj ((not_erase hn).resolve_left e) (fun k hk => List.mem_of_mem_erase (hc k hk)) g hg
      have := hb.size
      omega
  ne := fun j hj k hk hne hnj hnk hcj hck g hg => by
    by_cases e : j = i
    · subst e
      have ek : k ≠ j := fun e => hne e.symm
      simp only [updV, if_true] at hg
      simp only [updV, if_neg ek]
      intro hg'
      have h1 := hf g hg
      have h2 := h.own k hk ((not_erase hnk).resolve_left ek) (fun m hm => List.mem_of_mem_erase (hck m hm)) g hg'
      omega
    · simp only [updV, if_neg e] at hg
      by_cases e2 : k = i
      · subst e2
        simp only [updV, if_true]
        intro hg'
        have h1 := hf g hg'
        have h2 := h.own j hj ((not_erase hnj).resolve_left e) (fun m hm => List.mem_of_mem_erase (hcj m hm)) g hg
        omega
      · simp only [updV, if_neg e2]
        exact h.ne j hj k hk hne ((not_erase hnj).resolve_left e) ((not_erase hnk).resolve_left e2) (fun m hm => List.mem_of_mem_erase (hcj m hm)) (fun m hm => List.mem_of_mem_erase (hck m hm)) g hg
/-- One comes up that goes on in the block of another one, which it uses up. -/
theorem GInv.onto {E : Nat} {Grp : List Nat} {cons : Nat → Option Nat} {Post : Nat → Value → World → Prop} {R : List Nat} {vals : Nat → Value} {W W' : World} (h : GInv S E Grp cons Post R vals W) (i p : Nat) (v : Value) (hp : p ∈ Grp) (hpR : p ∉ R) (hcp : cons p = some i) (hiR : i ∈ R) (hnd : R.Nodup)
    (hgr : W.grownBy W' (blkOf (vals p))) (hS : S W') (hP : Post i v W') (hst : ∀ j ∈ Grp, j ≠ p → j ≠ i → (∀ g, blkOf (vals p) = some g → blkOf (vals j) ≠ some g) → Post j (vals j) W → Post j (vals j) W')
    (hf : ∀ g, blkOf v = some g → blkOf (vals p) = some g ∨ (W.heap.size ≤ g ∧ g < W'.heap.size)) : GInv S E Grp cons Post (R.erase i) (updV vals i v) W' where
  base := hS
  size := Nat.le_trans h.size hgr.size
  post := fun j hj hn hc => by
    by_cases e : j = i
    · subst e; simpa [updV] using hP
    · simp only [updV, if_neg e]
      have hc' : ∀ k, cons j = some k → k ∈ R := fun k hk => List.mem_of_mem_erase (hc k hk)
      have hpj : j ≠ p := fun e2 => by
        subst e2
        have := hc i hcp
        exact (List.Nodup.mem_erase_iff hnd).1 this |>.1 rfl
      have hcp' : ∀ k, cons p = some k → k ∈ R := fun k hk => by rw [hcp] at hk; cases hk; exact hiR
      exact hst j hj hpj e (fun g hg => h.ne p hp j hj (Ne.symm hpj) hpR ((not_erase hn).resolve_left e) hcp' hc' g hg) (h.post j hj ((not_erase hn).resolve_left e) hc')
  own := fun j hj hn hc g hg => by
    have hcp' : ∀ k, cons p = some k → k ∈ R := fun k hk => by rw [hcp] at hk; cases hk; exact hiR
    have hs := hgr.size
    have h0 := h.size
    by_cases e : j = i
    · subst e
      simp only [updV, if_true] at hg
      rcases hf g hg with h1 | h1
      · have := h.own p hp hpR hcp' g h1
        omega
      · omega
    · simp only [updV, if_neg e] at hg
      have := h.own j hj ((not_erase hn).resolve_left e) (fun k hk => List.mem_of_mem_erase (hc k hk)) g hg
      omega
  ne := fun j hj k hk hne hnj hnk hcj hck g hg => by
    have hcp' : ∀ k, cons p = some k → k ∈ R := fun k hk => by rw [hcp] at hk; cases hk; exact hiR
    have nop : ∀ m, m ≠ i → (∀ q, cons m = some q → q ∈ R.erase i) → m ≠ p := fun m _ hm e2 => by
      subst e2
      exact (List.Nodup.mem_erase_iff hnd).1 (hm i hcp) |>.1 rfl
    have key : ∀ m ∈ Grp, m ≠ i → m ∉ R.erase i → (∀ q, cons m = some q → q ∈ R.erase i) → ∀ g, blkOf v = some g → blkOf (vals m) ≠ some g := fun m hm hmi hmn hmc g hg hg' => by
      have hc' : ∀ q, cons m = some q → q ∈ R := fun q hq => List.mem_of_mem_erase (hmc q hq)
      rcases hf g hg with h1 | h1
      · exact h.ne p hp m hm (fun e => nop m hmi hmc e.symm) hpR ((not_erase hmn).resolve_left hmi) hcp' hc' g h1 hg'
      · have := h.own m hm ((not_erase hmn).resolve_left hmi) hc' g hg'
        omega
    by_cases e : j = i
    · subst e
      simp only [updV, if_true] at hg
      have ek : k ≠ j := fun e => hne e.symm
      simp only [updV, if_neg ek]
      exact key k hk ek hnk hck g hg
    · simp only [updV, if_neg e] at hg
      by_cases e2 : k = i
      · subst e2
        simp only [updV, if_true]
        intro hg'
        exact key j hj e hnj hcj g hg' hg
      · simp only [updV, if_neg e2]
        exact h.ne j hj k hk hne ((not_erase hnj).resolve_left e) ((not_erase hnk).resolve_left e2) (fun m hm => List.mem_of_mem_erase (hcj m hm)) (fun m hm => List.mem_of_mem_erase (hck m hm)) g hg
/-- Does nothing but the group come up till it is done, whatever the order, and then that road? -/
def grpB2 (ops : Array Oper) (T : List (Bool × Nat)) : Nat → List Nat → Array Bool → Bool
  | 0, _, _ => false
  | fuel + 1, R, L =>
    match R with
    | [] => planGB ops T L
    | r :: R => !(Region.ready .any ops L).isEmpty && (Region.ready .any ops L).all fun i => (match ops[i]? with | some o => o.after.toList.all fun e => !(r :: R).contains e.on | none => false) && (r :: R).contains i && grpB2 ops T fuel ((r :: R).erase i) (L.setIfInBounds i true)
/-- One step of the group. -/
def grpStep (P : Program) (ops : Array Oper) (Q : Exit → Act → World → Prop) (frame : (Nat → Value) → Act) (Inv : List Nat → (Nat → Value) → World → Prop) (i : Nat) : Prop :=
  ∀ o, ops[i]? = some o → ∀ (R : List Nat) (vals : Nat → Value) (W : World), i ∈ R → R.Nodup → (∀ e ∈ o.after.toList, e.on ∉ R) → Inv R vals W → ∀ K : Act → World → Prop, (∀ v W', Inv (R.erase i) (updV vals i v) W' → K ((frame vals).put o.dst v) W') → o.wp P (frame vals) W K Q
def grpSteps (P : Program) (ops : Array Oper) (Q : Exit → Act → World → Prop) (frame : (Nat → Value) → Act) (Inv : List Nat → (Nat → Value) → World → Prop) : List Nat → Prop
  | [] => True
  | i :: l => grpStep P ops Q frame Inv i ∧ grpSteps P ops Q frame Inv l
theorem grpSteps_all {frame : (Nat → Value) → Act} {Inv : List Nat → (Nat → Value) → World → Prop} : ∀ (l : List Nat), grpSteps P ops Q frame Inv l → ∀ i ∈ l, grpStep P ops Q frame Inv i
  | [], _, _, hi => by cases hi
  | j :: l, h, i, hi => by
    rcases List.mem_cons.1 hi with e | e
    · subst e; exact h.1
    · exact grpSteps_all l h.2 i e
theorem grp2_sound (hQ : ∀ c a d v w, Q (.panic c) (Act.put a d v) w → Q (.panic c) a w) (hs : Region.noSelect ops = true) (T : List (Bool × Nat)) (a0 : Act) (Inv : List Nat → (Nat → Value) → World → Prop) (Grp : List Nat)
    (hd : dstsB ops Grp = true) (hwant : ∀ i ∈ Grp, ∀ o, ops[i]? = some o → o.guard = none) (hSI : ∀ R vals W, Inv R vals W → S W) (hstep : grpSteps P ops Q (fun f => putAll ops f Grp a0) Inv Grp)
    (hend : ∀ vals W, Inv [] vals W → planG P ops Q S (T.filterMap fun i => (ops[i.2]?).map fun o => (i.1, o)) (putAll ops vals Grp a0) W) :
    ∀ (fuel : Nat) (R : List Nat) (L : Array Bool) (vals : Nat → Value) (W : World) (fuel' : Nat), R.length + T.length ≤ fuel' → R.Nodup → (∀ j ∈ R, j ∈ Grp) → grpB2 ops T fuel R L = true → Inv R vals W → wpAnyH P .any ops Q S fuel' L (putAll ops vals Grp a0) W
  | 0, _, _, _, _, _, _, _, _, hB, _ => by simp [grpB2] at hB
  | fuel + 1, [], L, vals, W, fuel', hf, _, _, hB, h => planG_sound hQ hs T S fuel' L _ W (by simpa using hf) (by simpa [grpB2] using hB) (hend vals W h)
  | fuel + 1, r :: R, L, vals, W, fuel', hf, hnd, hR, hB, h => by
    simp only [grpB2, Bool.and_eq_true, Bool.not_eq_true', List.all_eq_true] at hB
    obtain ⟨hne, hall⟩ := hB
    obtain ⟨fuel', rfl⟩ : ∃ m, fuel' = m + 1 := ⟨fuel' - 1, by simp at hf; omega⟩
    refine wpAnyH_all rfl (by intro e; rw [e] at hne; simp at hne) ?_
    intro i hi
    obtain ⟨⟨ho, hc⟩, hB'⟩ := hall i hi
    obtain ⟨o, ho', hpre⟩ : ∃ o, ops[i]? = some o ∧ ∀ e ∈ o.after.toList, e.on ∉ r :: R := by
      split at ho
      · rename_i o e
        refine ⟨o, e, fun x hx => ?_⟩
        have := List.all_eq_true.1 ho x hx
        simpa using this
      · cases ho
    have hiR : i ∈ r :: R := by simpa using hc
    unfold wpOp
    simp only [ho']
    rw [if_pos (by simp [Region.wanted, hwant i (hR i hiR) o ho'])]
    refine .inl (grpSteps_all Grp hstep i (hR i hiR) o ho' (r :: R) vals W hiR hnd hpre h _ ?_)
    intro v W' hI
    refine ⟨hSI _ _ _ hI, ?_⟩
    have e : dstOf ops i = o.dst := by simp [dstOf, ho']
    rw [← e, putAll_upd vals i v Grp a0 hd (hR i hiR)]
    refine grp2_sound hQ hs T a0 Inv Grp hd hwant hSI hstep hend fuel ((r :: R).erase i) _ _ W' fuel' ?_ (hnd.erase i) (fun j hj => hR j (List.mem_of_mem_erase hj)) hB' hI
    rw [List.length_erase_of_mem hiR]
    simp at hf ⊢
    omega
/-- What is asked where the group begins. -/
def grp2OK (P : Program) (ops : Array Oper) (Q : Exit → Act → World → Prop) (S : World → Prop) (Grp : List Nat) (T : List (Bool × Nat)) (a : Act) (w : World) : Prop :=
  ∃ (Inv : List Nat → (Nat → Value) → World → Prop), (∀ vals, Inv Grp vals w) ∧ (∀ R vals W, Inv R vals W → S W) ∧ grpSteps P ops Q (fun f => putAll ops f Grp a) Inv Grp ∧
    (∀ vals W, Inv [] vals W → planG P ops Q S (T.filterMap fun i => (ops[i.2]?).map fun o => (i.1, o)) (putAll ops vals Grp a) W)
/-- May these be taken first, then the group, then that road? -/
def planGrp2B (ops : Array Oper) (Grp : List Nat) (T : List (Bool × Nat)) : List Nat → Array Bool → Bool
  | [], L => grpB2 ops T (Grp.length + 1) Grp L
  | i :: H, L => (ops[i]?).isSome && Region.free .any ops L i && (Region.ready .any ops L).contains i && planGrp2B ops Grp T H (L.setIfInBounds i true)
theorem planGrp2_sound (hQ : ∀ c a d v w, Q (.panic c) (Act.put a d v) w → Q (.panic c) a w) (hs : Region.noSelect ops = true) (Grp : List Nat) (hnd : Grp.Nodup) (hd : dstsB ops Grp = true) (T : List (Bool × Nat)) (hwant : ∀ i ∈ Grp, ∀ o, ops[i]? = some o → o.guard = none) (w : World) (hS : S w) : ∀ (H : List Nat) (fuel : Nat) (L : Array Bool) (a : Act), H.length + (Grp.length + T.length) ≤ fuel → planGrp2B ops Grp T H L = true →
    planQ P ops S (fun a' => grp2OK P ops Q S Grp T a' w) (H.filterMap fun i => ops[i]?) a → wpAnyH P .any ops Q S fuel L a w
  | [], fuel, L, a, hf, hB, h => by
    obtain ⟨Inv, h0, hSI, hstep, hend⟩ := h
    have := grp2_sound (S := S) hQ hs T a Inv Grp hd hwant hSI hstep hend _ Grp L (fun i => match dstOf ops i with | some d => a.tmps.getD d undef | none => undef) w fuel (by simpa using hf) hnd (fun j hj => hj) hB (h0 _)
    rwa [putAll_init a Grp hd] at this
  | i :: H, fuel, L, a, hf, hB, h => by
    simp only [planGrp2B, Bool.and_eq_true] at hB
    obtain ⟨⟨⟨hi, hfr⟩, hr⟩, hB'⟩ := hB
    obtain ⟨o, ho⟩ := Option.isSome_iff_exists.1 hi
    obtain ⟨fuel, rfl⟩ : ∃ m, fuel = m + 1 := ⟨fuel - 1, by simp at hf; omega⟩
    have e : (i :: H).filterMap (fun i => ops[i]?) = o :: H.filterMap fun i => ops[i]? := by simp [ho]
    rw [e] at h
    obtain ⟨v, hy, h'⟩ := h
    exact wpAnyH_take ho hs hfr hr (fun c a w hh => hQ c a _ _ w hh) hy hS (planGrp2_sound hQ hs Grp hnd hd T hwant w hS H fuel _ _ (by simp at hf ⊢; omega) hB' h')
def nodupB : List Nat → Bool
  | [] => true
  | i :: l => !l.contains i && nodupB l
theorem nodupB_spec : ∀ (l : List Nat), nodupB l = true → l.Nodup
  | [], _ => .nil
  | i :: l, h => by
    simp only [nodupB, Bool.and_eq_true] at h
    exact List.nodup_cons.2 ⟨by simpa using h.1, nodupB_spec l h.2⟩
/-- THE LAW. -/
theorem wp_region_grp {id : Nat} {l : List Oper} {a : Act} {w : World} (S : World → Prop) (H Grp : List Nat) (T : List (Bool × Nat)) (hm : P.follows .mixedOrders = true)
    (hB : (planGrp2B l.toArray Grp T H (Array.replicate l.toArray.size false) && Region.noSelect l.toArray && Nat.ble (H.length + (Grp.length + T.length)) l.toArray.size && (Grp.all fun i => match l.toArray[i]? with | some o => o.guard.isNone | none => false) && nodupB Grp && dstsB l.toArray Grp) = true)
    (hQ : ∀ c a d v w, Q (.panic c) (Act.put a d v) w → Q (.panic c) a w) (hS : S w.drew)
    (h : planQ P l.toArray S (fun a' => grp2OK P l.toArray Q S Grp T a' w.drew) (H.filterMap fun i => l.toArray[i]?) a) : (Code.region id l.toArray true).wp P Q a w := by
  simp only [Bool.and_eq_true] at hB
  refine wp_region_held hm (planGrp2_sound hQ hB.1.1.1.1.2 Grp (nodupB_spec _ hB.1.2) hB.2 T ?_ w.drew hS H _ _ a (Nat.le_of_ble_eq_true hB.1.1.1.2) hB.1.1.1.1.1 h)
  intro i hi o ho
  have := List.all_eq_true.1 hB.1.1.2 i hi
  rw [ho] at this
  simpa using this
end
end Go.Proofs.Ytcpagoeaknlieaa
