/- aead: must, and what Open defers. No condition but those each theorem states. -/
import Derived.Test.YtdheopihcohciaaAeadT
import Derived.Defers
import Derived.Recover
import Derived.Laws.Pointers
namespace Go.Proofs.Ytdheopihcohciaa
set_option linter.unusedVariables false
set_option linter.unusedSimpArgs false
open Go.RowKit

theorem catch_panicking (p q : Addr) (x y : Value) (hpq : p.block ≠ q.block) (u : TypeId) (pv : Value) (older : List PanicEntry) (w : World) (hx : w.cell? p = some x) (hz : w.frozen? p = false) (hy : w.cell? q = some y) (hz2 : w.frozen? q = false) :
    CallsD Try.prog 19 #[.pointer (some p), .pointer (some q)] (.panicking ({ v := .iface u pv, recovered := false } :: older)) w fun e u' w' =>
      e = .returned (.tuple #[]) ∧ u' = .panicking ({ v := .iface u pv, recovered := true } :: older) ∧ w' = (w.setCell p (.slice none 0 0)).setCell q (.bool false) := by
  have hy1 : (w.setCell p (.slice none 0 0)).cell? q = some y := by rw [World.cell?_setCell_other _ _ _ _ (fun e => hpq (by rw [e]))]; exact hy
  have hz1 : (w.setCell p (.slice none 0 0)).frozen? q = false := by simp [hz2]
  refine callsD_of_wpS Try.func19 rfl fun c₀ cs hu => ?_
  apply wpS_seq
  apply wpS_region
  simp [wpOpsS, go_sem, recoverD, hu, Try.ntmps19, Exit.thenS]
  refine wpS_cond (t := true) (by simp [Act.eval, Array.replicate]) ?_
  simp only [if_true]
  apply wpS_region
  simp [wpOpsS, go_sem, hx, hz, hy1, hz1, bodyPostS, results, Try.results19]
theorem catch_idle (p q : Addr) (w : World) :
    CallsD Try.prog 19 #[.pointer (some p), .pointer (some q)] .returning w fun e u' w' => e = .returned (.tuple #[]) ∧ u' = .returning ∧ w' = w := by
  refine callsD_of_wpS Try.func19 rfl fun c₀ cs hu => ?_
  apply wpS_seq
  apply wpS_region
  simp [wpOpsS, go_sem, recoverD, hu, Try.ntmps19, Exit.thenS]
  refine wpS_cond (t := false) (by simp [Act.eval, Array.replicate]) ?_
  simp only [Bool.false_eq_true, if_false]
  refine wpS_of_wp (wp_skip ?_)
  cases c₀
  simp_all [bodyPostS, results, Try.results19]
theorem must_true (w : World) : Calls Try.prog 20 #[.bool true] w fun e w' => e = .returned (.tuple #[]) ∧ w' = w := by
  go_enter Try.func20, Try.ntmps20
  go_wp2_with fail
  go_end0
  exact ⟨rfl, rfl⟩
/-- What must throws. -/
def Thrown (e : Ending) : Prop := ∃ u v, e = .panicked [{ v := .iface u v, recovered := false }]
theorem must_false (w : World) : Calls Try.prog 20 #[.bool false] w fun e w' => Thrown e ∧ w' = w := by
  go_enter Try.func20, Try.ntmps20
  go_wp2_with fail
  exact ⟨rfl, ⟨_, _, rfl⟩, rfl⟩
theorem run_cut_max {P : Program} {o : Oper} {a : Act} (t e : TypeId) (x h m' : Operand) (ho : o.op = .slice t x none (some h) (some m')) {i : TypeInfo} (ht : P.underlying t = some (.slice e)) (hi : P.info? e = some i) (hsz : i.size = 1) (A : Option Addr) (n c m : Nat) (hm : m ≤ c)
    (hx : a.eval x = .slice A n c) (hh : a.eval h = .int .i64 (m : Int)) (hmm : a.eval m' = .int .i64 (m : Int)) (W : World) : (execOp a.eval o).run P W = .ok (.value (.slice A m m)) W := by
  unfold execOp
  simp only [ho, hx, Option.map_some, Option.map_none, hh, hmm, Instr.sliceAt, Sem.run_bind, Sem.run_pure, run_underlying ht, Result.andThen_ok, cut_max t e ht hi hsz A n c m hm W, Result.andThen_ok]
end Go.Proofs.Ytdheopihcohciaa
