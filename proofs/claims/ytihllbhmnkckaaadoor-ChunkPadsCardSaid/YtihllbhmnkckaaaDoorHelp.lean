/- Small words for walks of laws: what stands while a law is asked, rows that are made, texts that are compared. No condition but those each theorem states. -/
import Derived.Test.YtihllbhmnkckaaaDoorProg
import Derived.Test.YtihllbhmnkckaaaDoorGPlan
import Derived.Test.YtihllbhmnkckaaaDoorGen
import Derived.Test.YtihllbhmnkckaaaDoorOps
namespace Go.Proofs.YtihllbhmnkckaaaDoor
set_option linter.unusedVariables false
set_option linter.unusedSimpArgs false
open Go.RowKit

theorem strB_beq (l l' : List UInt8) : ((strB l).toList == (strB l').toList) = decide (l = l') := by
  rw [ByteArray.toList_eq, ByteArray.toList_eq]
  simp only [strB]
  by_cases h : l = l' <;> simp [h]
theorem run_eqstr {P : Program} {o : Oper} {a : Act} (t t2 : TypeId) (x y : Operand) (ho : o.op = .binOp .eql t x y t2) (l l' : List UInt8) (hx : a.eval x = .string (strB l)) (hy : a.eval y = .string (strB l')) (W : World) : (execOp a.eval o).run P W = .ok (.value (.bool (decide (l = l')))) W := by
  have h2 : (binOp .eql t (.string (strB l)) (.string (strB l'))).run P W = .ok (.bool ((strB l).toList == (strB l').toList)) W := by go_simp
  unfold execOp
  simp only [ho, hx, hy, Sem.run_bind, Sem.run_pure, h2, Result.andThen_ok, strB_beq]
  go_simp
  rw [strB_beq]
/-- What is owned is made anew: what was there is as it was. -/
theorem below_own {w W W' : World} {v : Value} {l : List UInt8} (h : Below w.heap.size w W) (ho : OwnB W w.heap.size v l) (hg : W.grownBy W' v.ownBlock) : Below w.heap.size w W' := h.trans (grown_below hg h.size (fun g e => (ho.lt g e).1))
theorem made_new {w W W' : World} {NB : Nat} (hw : W.alloc (.cells #[] 5) = W') (hB : W.heap.size = NB) (hb : Below w.heap.size w W) : OwnB W' w.heap.size (.slice (some ⟨NB, 0, none⟩) 0 0) [] ∧ Below w.heap.size w W' ∧ Below W.heap.size W W' := by
  subst hw hB
  exact ⟨World.ownsRow_made _ #[] 0 hb.size (Nat.zero_le _) rfl, hb.alloc hb.size _, (Below.refl _ _).alloc (Nat.le_refl _) _⟩
theorem built_one {w W W' : World} {NB : Nat} {x : UInt8} (hw : W.alloc (.cells #[.int .u8 (x.toNat : Int)] 5) = W') (hB : W.heap.size = NB) (hb : Below w.heap.size w W) : RdB W' (some ⟨NB, 0, none⟩) [x] ∧ Below w.heap.size w W' ∧ Below W.heap.size W W' := by
  subst hw hB
  exact ⟨RdB.one (row_cell (fr := (0, 0)) (ha_new _ _ _ rfl) 0 rfl), hb.alloc hb.size _, (Below.refl _ _).alloc (Nat.le_refl _) _⟩
theorem below_new (w : World) (o : Obj) : Below w.heap.size w (w.alloc o) := (Below.refl _ _).alloc (Nat.le_refl _) _
theorem run_eqstr_true {P : Program} {o : Oper} {a : Act} (t t2 : TypeId) (x y : Operand) (ho : o.op = .binOp .eql t x y t2) (l l' : List UInt8) (h : l = l') (hx : a.eval x = .string (strB l)) (hy : a.eval y = .string (strB l')) (W : World) : (execOp a.eval o).run P W = .ok (.value (.bool true)) W := by
  have := run_eqstr (P := P) t t2 x y ho l l' hx hy W
  rwa [decide_eq_true h] at this
/-- Blocks that stand while a law is asked. -/
structure OneB (w : World) (t : TypeId) (M : Nat) (X : List UInt8) (W : World) : Prop where
  bel : Below w.heap.size w W
  b : W.heap[M]? = some (.cells (W8 X) t (0, 0))
theorem OneB.keep {w W W' : World} {t : TypeId} {M : Nat} {X : List UInt8} (h : OneB w t M X W) (hb : Below W.heap.size W W') : OneB w t M X W' := ⟨h.bel.trans (hb.mono h.bel.size), below_block hb (row_lt h.b) h.b⟩
/-- A row of slices that was made. -/
theorem built_rows {W W' : World} {NB : Nat} {vs : Array Value} (hw : W.alloc (.cells vs 22) = W') (hB : W.heap.size = NB) : RdV W' (some ⟨NB, 0, none⟩) vs.toList ∧ Below W.heap.size W W' := by
  subst hw hB
  exact ⟨RdV.row (t := 22) (fr := (0, 0)) (ha_new _ _ _ rfl), below_new _ _⟩
/-- The first texts, each cut. -/
def cutsL (k : Nat) (ls : List (List UInt8)) (j : Nat) : List (List UInt8) := (ls.take j).map (·.take k)
theorem cutsL_succ (k : Nat) (ls : List (List UInt8)) (j : Nat) (l : List UInt8) (h : ls[j]? = some l) : cutsL k ls (j + 1) = cutsL k ls j ++ [l.take k] := by
  rw [cutsL, List.take_add_one, h]; simp [cutsL]
theorem cutsL_flat (k : Nat) (ls : List (List UInt8)) (j : Nat) : (cutsL k ls j).flatten.length ≤ k * j := by
  have key : ∀ (q : List (List UInt8)), (q.map (·.take k)).flatten.length ≤ k * q.length := by
    intro q
    induction q with
    | nil => simp
    | cons l q ih =>
      simp only [List.map_cons, List.flatten_cons, List.length_append, List.length_take, List.length_cons, Nat.mul_succ]
      omega
  have h1 := key (ls.take j)
  have h2 : k * (ls.take j).length ≤ k * j := Nat.mul_le_mul (Nat.le_refl _) (by rw [List.length_take]; omega)
  unfold cutsL
  omega
theorem slices_one {vs : List Value} {ls : List (List UInt8)} {w : World} (h : All2 (SlB w) vs ls) : ∀ u ∈ vs, u.oneCell' = true := by
  induction h with
  | nil => intro u hu; cases hu
  | cons h1 _ ih =>
    intro u hu
    rcases List.mem_cons.1 hu with e | e
    · obtain ⟨A, c, e', _⟩ := h1
      rw [e, e']; rfl
    · exact ih u e
theorem ne_step {v v' : Value} {W : World} {N : Nat} (h : ∀ g, v.ownBlock = some g → N ≠ g) (hat : v'.ownBlock = v.ownBlock ∨ v'.ownBlock = some W.heap.size) (hN : N < W.heap.size) : ∀ g, v'.ownBlock = some g → N ≠ g := by
  intro g hg
  rcases hat with e | e
  · exact h g (e ▸ hg)
  · rw [e] at hg
    injection hg with hg
    omega
theorem fresh_ne {W : World} {N7 N4 : Nat} (h : N7 < W.heap.size) (hB : W.heap.size = N4) : ∀ g, (Value.slice (some ⟨N4, 0, none⟩) 0 0).ownBlock = some g → N7 ≠ g := by
  intro g e
  simp [Value.ownBlock] at e
  omega
theorem RdB.lt1 {w : World} {b o : Nat} {x : UInt8} {l : List UInt8} (h : RdB w (some ⟨b, o, none⟩) (x :: l)) : b < w.heap.size := h.lt (by simp) _ rfl
theorem _root_.Go.Proofs.YtihllbhmnkckaaaDoor.RdV.lt1 {w : World} {b o : Nat} {v : Value} {l : List Value} (h : RdV w (some ⟨b, o, none⟩) (v :: l)) : b < w.heap.size := by
  obtain ⟨b', o', e, hc⟩ := h 0 v rfl
  cases e
  exact World.block_lt_of_cell? _ _ hc
theorem freeze_same (w : World) (a : Addr) (n : Nat) : (w.freeze a n).os = w.os ∧ (w.freeze a n).tape = w.tape ∧ (w.freeze a n).output = w.output := by
  unfold World.freeze
  split <;> exact ⟨rfl, rfl, rfl⟩
theorem bytesWorld_os (w : World) (e : TypeId) (s : ByteArray) : (Lib.bytesWorld w e s).os = w.os := (freeze_same _ _ _).1
theorem bytesWorld_tape (w : World) (e : TypeId) (s : ByteArray) : (Lib.bytesWorld w e s).tape = w.tape := (freeze_same _ _ _).2.1
theorem bytesWorld_output (w : World) (e : TypeId) (s : ByteArray) : (Lib.bytesWorld w e s).output = w.output := (freeze_same _ _ _).2.2
theorem run_neqstr_false {P : Program} {o : Oper} {a : Act} (t t2 : TypeId) (x y : Operand) (ho : o.op = .binOp .neq t x y t2) (l l' : List UInt8) (h : l = l') (hx : a.eval x = .string (strB l)) (hy : a.eval y = .string (strB l')) (W : World) : (execOp a.eval o).run P W = .ok (.value (.bool false)) W := by
  have e : ((strB l).toList == (strB l').toList) = true := by rw [strB_beq]; simpa using h
  unfold execOp
  simp only [ho, hx, hy, Sem.run_bind, Sem.run_pure]
  go_simp
/-- '[]byte(s)' of a string. -/
theorem bytes_wp {P : Program} {o : Oper} {a : Act} {Q : Exit → Act → World → Prop} {W : World} {K : Act → World → Prop} (src dst e : TypeId) (x : Operand) (ho : o.op = .convert src dst x) {u : TypeDesc} (hs : P.underlying src = some u) (hd : P.underlying dst = some (.slice e)) (he : P.underlying e = some (.int .u8))
    (l : List UInt8) (hx : a.eval x = .string (strB l))
    (h : ∀ w' c, RdB w' (some ⟨W.heap.size, 0, none⟩) l → l.length ≤ c → Below W.heap.size W w' → w'.heap.size = W.heap.size + 1 → K (a.put o.dst (.slice (some ⟨W.heap.size, 0, none⟩) l.length c)) w') : o.wp P a W K Q := by
  have hrun := Lib.run_convert_string_bytes (P := P) W src dst e (strB l) hs hd he
  unfold Oper.wp execOp
  simp only [ho, hx, Sem.run_bind, Sem.run_pure, hrun, Result.andThen_ok]
  have hsz : (strB l).size = l.length := strB_size l
  rw [hsz]
  refine h _ _ (fun j hj => ⟨W.heap.size, 0, rfl, ?_⟩) (grownCap_ge _ _ _ _) ⟨?_, ?_, ?_, ?_, ?_⟩ (Lib.bytesWorld_size _ _ _)
  · rw [Nat.zero_add, Lib.bytesWorld_cell W e (strB l) j (by rw [hsz]; exact hj)]
    simp [strB, List.getD_eq_getElem?_getD, hj]
  · exact bytesWorld_os _ _ _
  · exact bytesWorld_tape _ _ _
  · exact bytesWorld_output _ _ _
  · rw [Lib.bytesWorld_size]; omega
  · intro k hk
    exact Lib.bytesWorld_at_old W e (strB l) k hk
theorem bytes_list {P : Program} {ops : Array Oper} {rest : List Oper} {o : Oper} {a : Act} {Q : Exit → Act → World → Prop} {W : World} (hg : o.guard = none) (src dst e : TypeId) (x : Operand) (ho : o.op = .convert src dst x) {u : TypeDesc} (hs : P.underlying src = some u) (hd : P.underlying dst = some (.slice e)) (he : P.underlying e = some (.int .u8))
    (l : List UInt8) (hx : a.eval x = .string (strB l))
    (h : ∀ w' c, RdB w' (some ⟨W.heap.size, 0, none⟩) l → l.length ≤ c → Below W.heap.size W w' → w'.heap.size = W.heap.size + 1 → wpList P ops Q rest (a.put o.dst (.slice (some ⟨W.heap.size, 0, none⟩) l.length c)) w') : wpList P ops Q (o :: rest) a W :=
  wpList_plain hg fun _ hK => bytes_wp src dst e x ho hs hd he l hx (fun w' c h1 h2 h3 h4 => hK _ _ (h w' c h1 h2 h3 h4))
end Go.Proofs.YtihllbhmnkckaaaDoor
