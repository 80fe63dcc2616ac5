/- Rows of bytes that are made, and copied. No condition but those each theorem states. -/
import Derived.Test.YtihllbhmnkckaaaDoorProg
import Derived.Test.YtihllbhmnkckaaaDoorBase
import Derived.Laws.CopyOwn
import Derived.Deep.OwnRows
namespace Go.Proofs.YtihllbhmnkckaaaDoor
set_option linter.unusedVariables false
set_option linter.unusedSimpArgs false
open Go.RowKit

theorem make_run (n : Nat) (hn : n ≤ 140737488355328) (W : World) : (Instr.makeSlice 22 (.int .i64 (n : Int)) (.int .i64 (n : Int))).run Tryd.prog W = .ok (.slice (some ⟨W.heap.size, 0, none⟩) n n) (W.alloc (.cells (W8 (List.replicate n 0)) 5)) := by
  have h := Go.run_make_row' (P := Tryd.prog) 22 5 (.int .u8 0) 1 Tryd.underlying22 (by kernel_rfl) rfl .i64 .i64 n (by omega) (by omega) W
  rw [made_W8] at h
  exact h
theorem OwnB.ofRow {w : World} {g base n : Nat} {l : List UInt8} (h : w.heap[g]? = some (.cells (W8 l) 5 (0, 0))) (hb : base ≤ g) (hn : l.length = n) (hm : n ≤ 140737488355328) : OwnB w base (.slice (some ⟨g, 0, none⟩) n n) l := by
  subst hn
  refine ⟨by simp [B8], .inr ⟨g, _, W8 l, rfl, hb, h, Nat.le_refl _, by unfold maxLen; omega, by simp [W8], ?_⟩⟩
  simp only [W8, B8, Nat.mul_one]
  rw [List.take_of_length_le (by simp)]
theorem splice_B8 (cur cs : List UInt8) (off : Nat) : (splice (B8 cur) off (B8 cs)).toArray = W8 (cur.take off ++ (cs ++ cur.drop (off + cs.length))) := by
  simp [splice, B8, W8, List.map_append, List.map_take, List.map_drop]
theorem W8_B8 (l : List UInt8) : W8 l = (B8 l).toArray := rfl
/-- copy(dst, src), dst a row of the call's own that is known whole, from a place on. -/
theorem copy_list {P : Program} {w : World} {ops : Array Oper} {rest : List Oper} {o : Oper} {a : Act} {Q : Exit → Act → World → Prop} (hgd : o.guard = none) (T : ByteT P) (d s : Operand)
    (ho : o.op = .call { callee := .builtin .copy, args := #[d, s], argTypes := #[22, 22] }) (A : Option Addr) (dLen dCap sLen sCap g off : Nat) (cur src : List UInt8) (t : TypeId) (dp : Option Addr)
    (hd : a.eval d = .slice dp dLen dCap) (hs : a.eval s = .slice A sLen sCap) (hp : 0 < src.length → dp = some ⟨g, off, none⟩) (hg : w.heap[g]? = some (.cells (W8 cur) t (0, 0))) (hR : RdB w A src) (hn : src.length = sLen) (hl : sLen ≤ dLen) (hfit : off + sLen ≤ cur.length)
    (h : ∀ w', w'.heap[g]? = some (.cells (W8 (cur.take off ++ (src ++ cur.drop (off + src.length)))) t (0, 0)) → w.grownBy w' (some g) → w'.heap.size = w.heap.size → wpList P ops Q rest (a.put o.dst (.int .i64 (sLen : Int))) w') : wpList P ops Q (o :: rest) a w := by
  subst hn
  by_cases h0 : src.length = 0
  · obtain rfl : src = [] := List.eq_nil_of_length_eq_zero h0
    refine wpList_copy_nothing hgd d s _ _ ho 5 T.ht (by have := T.hinfo; revert this; cases P.info? 5 <;> simp <;> intros <;> assumption) dp A dLen dCap 0 sCap hd hs (by simp) ?_
    exact h w (by simpa using hg) (World.grownBy.refl _ _) rfl
  · obtain ⟨b, o', rfl, _⟩ := hR 0 (by omega)
    obtain rfl := hp (by omega)
    have hcs : (B8 src).length = src.length := by simp [B8]
    refine wpList_copy_own hgd d s _ _ ho 5 T.ht (by have := T.hinfo; revert this; cases P.info? 5 <;> simp <;> intros <;> assumption) g off dLen dCap ⟨b, o', none⟩ src.length sCap hd hs (W8 cur) t hg (B8 src) (by rw [hcs]; simp [Nat.min_def]; omega) ?_ (by rw [hcs, W8_size]; exact hfit) (B8_one _) ?_
    · intro j u hu
      have hj : j < src.length := by
        have := (List.getElem?_eq_some_iff.1 hu).1
        rwa [hcs] at this
      obtain ⟨b', o'', e', hc'⟩ := hR j hj
      injection e' with e'
      injection e' with e1 e2
      subst e1 e2
      rw [add_at, hc', ← B8_get _ j hj, hu]
    · rw [hcs]
      have e : ((W8 cur).toList.take off ++ (B8 src ++ (W8 cur).toList.drop (off + src.length))).toArray = W8 (cur.take off ++ (src ++ cur.drop (off + src.length))) := by
        simp [B8, W8, List.map_append, List.map_take, List.map_drop]
      rw [e]
      exact h _ (setRow_heap w g _ _ t _ hg) ⟨rfl, rfl, rfl, by simp, fun k hk hne => setRow_other w g k _ (fun e => hne (by rw [e]))⟩ (by simp)
end Go.Proofs.YtihllbhmnkckaaaDoor
