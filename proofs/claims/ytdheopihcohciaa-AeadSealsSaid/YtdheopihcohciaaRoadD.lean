/- A region that draws its order in a function that defers: what is handed back at the door must not hang on the slots that the region writes. No condition but those each theorem states. -/
import Derived.Test.YtdheopihcohciaaTree
import Derived.Defers
namespace Go.Proofs.Ytdheopihcohciaa
set_option linter.unusedVariables false
set_option linter.unusedSimpArgs false
open Go.RowKit

section
variable {P : Program} {ops : Array Oper} {Q : Exit → Act → World → Prop} {S : World → Prop} {D : Option Tmp → Bool}
theorem planG_soundD (hQ : ∀ c a d v w, D d = true → Q (.panic c) (Act.put a d v) w → Q (.panic c) a w) (hD : ∀ (i : Nat) (o : Oper), ops[i]? = some o → D o.dst = true) (hs : Region.noSelect ops = true) : ∀ (T : List (Bool × Nat)) (S : World → Prop) (fuel : Nat) (L : Array Bool) (a : Act) (w : World), T.length ≤ fuel → planGB ops T L = true →
    planG P ops Q S (T.filterMap fun i => (ops[i.2]?).map fun o => (i.1, o)) a w → wpAnyH P .any ops Q S fuel L a w
  | [], S, fuel, L, a, w, _, hB, h => by
    simp only [planGB, List.isEmpty_iff] at hB
    exact wpAnyH_done hB h fuel
  | (true, i) :: T, S, fuel, L, a, w, hf, hB, h => by
    simp only [planGB, Bool.and_eq_true] at hB
    obtain ⟨⟨⟨hi, hfr⟩, hr⟩, hB'⟩ := hB
    obtain ⟨o, ho⟩ := Option.isSome_iff_exists.1 hi
    obtain ⟨fuel, rfl⟩ : ∃ m, fuel = m + 1 := ⟨fuel - 1, by simp at hf; omega⟩
    have e : ((true, i) :: T).filterMap (fun i => (ops[i.2]?).map fun o => (i.1, o)) = (true, o) :: T.filterMap fun i => (ops[i.2]?).map fun o => (i.1, o) := by simp [ho]
    rw [e] at h
    obtain ⟨S', hSS, hS, v, hy, h'⟩ := h
    exact wpAnyH_narrow hSS _ _ _ _ (wpAnyH_take ho hs hfr hr (fun c a w hh => hQ c a _ _ w (hD i o ho) hh) hy hS (planG_soundD hQ hD hs T S' fuel _ _ w (by simp at hf ⊢; omega) hB' h'))
  | (false, i) :: T, S, fuel, L, a, w, hf, hB, h => by
    simp only [planGB, Bool.and_eq_true] at hB
    obtain ⟨⟨hi, hr0⟩, hB'⟩ := hB
    have hr : Region.ready .any ops L = [i] := by
      split at hr0
      · rename_i j hj
        rw [hj, Nat.eq_of_beq_eq_true hr0]
      · cases hr0
    obtain ⟨o, ho⟩ := Option.isSome_iff_exists.1 hi
    obtain ⟨fuel, rfl⟩ : ∃ m, fuel = m + 1 := ⟨fuel - 1, by simp at hf; omega⟩
    have e : ((false, i) :: T).filterMap (fun i => (ops[i.2]?).map fun o => (i.1, o)) = (false, o) :: T.filterMap fun i => (ops[i.2]?).map fun o => (i.1, o) := by simp [ho]
    rw [e] at h
    obtain ⟨S', hSS, h⟩ := h
    refine wpAnyH_narrow hSS _ _ _ _ (wpAnyH_all hr (by simp) ?_)
    intro j hj
    obtain rfl : j = i := by simpa using hj
    unfold wpOp
    simp only [ho]
    split
    · rename_i hw
      rw [if_pos hw] at h
      refine .inl ?_
      exact Oper.wp_mono (fun a' w' hh => ⟨hh.1, planG_soundD hQ hD hs T S' fuel _ a' w' (by simp at hf; omega) hB' hh.2⟩) h
    · rename_i hw
      rw [if_neg hw] at h
      exact ⟨h.1, planG_soundD hQ hD hs T S' fuel _ _ w (by simp at hf; omega) hB' h.2⟩
theorem all_dst {l : List Oper} (h : l.all (fun o => D o.dst) = true) : ∀ (i : Nat) (o : Oper), l.toArray[i]? = some o → D o.dst = true := by
  intro i o ho
  rw [List.getElem?_toArray] at ho
  exact List.all_eq_true.1 h o (List.mem_of_getElem? ho)
/-- THE LAW. -/
theorem wp_region_roadD {id : Nat} {l : List Oper} {a : Act} {w : World} (D : Option Tmp → Bool) (hD : l.all (fun o => D o.dst) = true) (S : World → Prop) (T : List (Bool × Nat)) (hm : P.follows .mixedOrders = true)
    (hB : (planGB l.toArray T (Array.replicate l.toArray.size false) && Region.noSelect l.toArray && Nat.ble T.length l.toArray.size) = true)
    (hQ : ∀ c a d v w, D d = true → Q (.panic c) (Act.put a d v) w → Q (.panic c) a w)
    (h : planG P l.toArray Q S (T.filterMap fun i => (l.toArray[i.2]?).map fun o => (i.1, o)) a w.drew) : (Code.region id l.toArray true).wp P Q a w := by
  simp only [Bool.and_eq_true] at hB
  exact wp_region_held hm (planG_soundD hQ (all_dst hD) hB.1.2 T S _ _ a w.drew (Nat.le_of_ble_eq_true hB.2) hB.1.1 h)
theorem road_soundD (hQ : ∀ c a d v w, D d = true → Q (.panic c) (Act.put a d v) w → Q (.panic c) a w) (hD : ∀ (i : Nat) (o : Oper), ops[i]? = some o → D o.dst = true) (hs : Region.noSelect ops = true) : ∀ (T : Road) (S : World → Prop) (fuel : Nat) (L : Array Bool) (a : Act) (w : World), roadN T ≤ fuel → roadB ops T L = true →
    road P ops Q S T a w → wpAnyH P .any ops Q S fuel L a w := by
  intro T
  induction T with
  | done =>
    intro S fuel L a w _ hB h
    simp only [roadB, List.isEmpty_iff] at hB
    exact wpAnyH_done hB h fuel
  | q i T ih =>
    intro S fuel L a w hf hB h
    simp only [roadB, Bool.and_eq_true] at hB
    obtain ⟨⟨⟨hi, hfr⟩, hr⟩, hB'⟩ := hB
    simp only [roadN] at hf
    obtain ⟨fuel, rfl⟩ : ∃ m, fuel = m + 1 := ⟨fuel - 1, by omega⟩
    obtain ⟨S', hSS, hS, o, ho, v, hy, h'⟩ := h
    exact wpAnyH_narrow hSS _ _ _ _ (wpAnyH_take ho hs hfr hr (fun c a w hh => hQ c a _ _ w (hD _ _ ho) hh) hy hS (ih S' fuel _ _ w (by omega) hB' h'))
  | t i T ih =>
    intro S fuel L a w hf hB h
    simp only [roadB, Bool.and_eq_true] at hB
    obtain ⟨⟨hi, hr0⟩, hB'⟩ := hB
    have hr : Region.ready .any ops L = [i] := by
      split at hr0
      · rename_i j hj
        rw [hj, Nat.eq_of_beq_eq_true hr0]
      · cases hr0
    simp only [roadN] at hf
    obtain ⟨fuel, rfl⟩ : ∃ m, fuel = m + 1 := ⟨fuel - 1, by omega⟩
    obtain ⟨S', hSS, h⟩ := h
    refine wpAnyH_narrow hSS _ _ _ _ (wpAnyH_all hr (by simp) ?_)
    intro j hj
    obtain rfl : j = i := by simpa using hj
    exact stepR_sound h (fun a w h => ih S' fuel _ a w (by omega) hB' h)
  | two i T j U ihT ihU =>
    intro S fuel L a w hf hB h
    simp only [roadB, Bool.and_eq_true] at hB
    obtain ⟨⟨⟨_, hr0⟩, hT⟩, hU⟩ := hB
    have hr : Region.ready .any ops L = [i, j] := by
      split at hr0
      · rename_i a b hj
        simp only [Bool.and_eq_true] at hr0
        rw [hj, Nat.eq_of_beq_eq_true hr0.1, Nat.eq_of_beq_eq_true hr0.2]
      · cases hr0
    simp only [roadN] at hf
    obtain ⟨fuel, rfl⟩ : ∃ m, fuel = m + 1 := ⟨fuel - 1, by omega⟩
    obtain ⟨S', hSS, h1, h2⟩ := h
    refine wpAnyH_narrow hSS _ _ _ _ (wpAnyH_all hr (by simp) ?_)
    intro k hk
    simp only [List.mem_cons, List.not_mem_nil, or_false] at hk
    rcases hk with rfl | rfl
    · exact stepR_sound h1 (fun a w h => ihT S' fuel _ a w (by omega) hT h)
    · exact stepR_sound h2 (fun a w h => ihU S' fuel _ a w (by omega) hU h)
  | three i T j U k V ihT ihU ihV =>
    intro S fuel L a w hf hB h
    simp only [roadB, Bool.and_eq_true] at hB
    obtain ⟨⟨⟨⟨_, hr0⟩, hT⟩, hU⟩, hV⟩ := hB
    have hr : Region.ready .any ops L = [i, j, k] := by
      split at hr0
      · rename_i a b c hj
        simp only [Bool.and_eq_true] at hr0
        rw [hj, Nat.eq_of_beq_eq_true hr0.1.1, Nat.eq_of_beq_eq_true hr0.1.2, Nat.eq_of_beq_eq_true hr0.2]
      · cases hr0
    simp only [roadN] at hf
    obtain ⟨fuel, rfl⟩ : ∃ m, fuel = m + 1 := ⟨fuel - 1, by omega⟩
    obtain ⟨S', hSS, h1, h2, h3⟩ := h
    refine wpAnyH_narrow hSS _ _ _ _ (wpAnyH_all hr (by simp) ?_)
    intro m hm
    simp only [List.mem_cons, List.not_mem_nil, or_false] at hm
    rcases hm with rfl | rfl | rfl
    · exact stepR_sound h1 (fun a w h => ihT S' fuel _ a w (by omega) hT h)
    · exact stepR_sound h2 (fun a w h => ihU S' fuel _ a w (by omega) hU h)
    · exact stepR_sound h3 (fun a w h => ihV S' fuel _ a w (by omega) hV h)
/-- THE LAW, a tree. -/
theorem wp_region_treeD {id : Nat} {l : List Oper} {a : Act} {w : World} (D : Option Tmp → Bool) (hD : l.all (fun o => D o.dst) = true) (S : World → Prop) (T : Road) (hm : P.follows .mixedOrders = true)
    (hB : (roadB l.toArray T (Array.replicate l.toArray.size false) && Region.noSelect l.toArray && Nat.ble (roadN T) l.toArray.size) = true)
    (hQ : ∀ c a d v w, D d = true → Q (.panic c) (Act.put a d v) w → Q (.panic c) a w)
    (h : road P l.toArray Q S T a w.drew) : (Code.region id l.toArray true).wp P Q a w := by
  simp only [Bool.and_eq_true] at hB
  exact wp_region_held hm (road_soundD hQ (all_dst hD) hB.1.2 T S _ _ a w.drew (Nat.le_of_ble_eq_true hB.2) hB.1.1 h)
end
theorem leaves_tmps {P : Program} {fn : Func} {t1 t2 : Array Value} {R : Ending → World → Prop} (hr : results fn t1 = results fn t2) : ∀ (ds : List Deferred) (u : FrameMode) (w : World), Leaves P fn t1 R ds u w → Leaves P fn t2 R ds u w
  | [], .returning, w, h => by
    unfold Leaves at h ⊢
    rw [← hr]
    exact h
  | [], .panicking _, w, h => by
    unfold Leaves at h ⊢
    exact h
  | [], .run, w, h => by
    unfold Leaves at h
    exact h.elim
  | d :: ds, u, w, h => by
    unfold Leaves at h ⊢
    obtain ⟨h1, fv, cap, f, args, h2, h3, h4⟩ := h
    refine ⟨h1, fv, cap, f, args, h2, h3, h4.mono ?_⟩
    intro e u' w' hh
    cases e with
    | returned v => exact leaves_tmps hr ds _ _ hh
    | panicked c => exact leaves_tmps hr ds _ _ hh
    | outgrown => exact hh
theorem door_put {P : Program} {fn : Func} {R : Ending → World → Prop} {c : List PanicEntry} {a : Act} {d : Option Tmp} {v : Value} {w : World} (hr : results fn (a.put d v).tmps = results fn a.tmps) (h : bodyPostD P fn R (.panic c) (a.put d v) w) : bodyPostD P fn R (.panic c) a w := by
  have hd : (a.put d v).defers = a.defers := by cases d <;> rfl
  have h' : Leaves P fn (a.put d v).tmps R (a.put d v).defers (.panicking c) w := h
  rw [hd] at h'
  exact leaves_tmps hr _ _ _ h'
end Go.Proofs.Ytdheopihcohciaa
