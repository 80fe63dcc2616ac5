/- errors.Is at two of the program's own numbers. No condition. -/
import Derived.Test.YtcmpiockcndejaaChecked
import Derived.WalkKit
import Derived.LaidEql
import Derived.Stop.Asserts
import Derived.RowKitTokens
namespace Go.Proofs.Ytcmpiockcndejaa
set_option linter.unusedVariables false
set_option linter.unusedSimpArgs false
open Go.RowKit Go.Extern.Stop Go.Stop Go.Extern

theorem is_typeOf (v : Value) (w : World) : (Extern.ReflectliteType.typeOf #[.iface 30 v]).run Try.prog w = .ok (.iface 78 (.agg #[.pointer (some ⟨0, 30, none⟩)])) w := by kernel_rfl
theorem is_noIs (v : Value) (xT : TypeId) (w : World) : (Instr.typeAssert (.iface 30 v) xT 80 true).run Try.prog w = .ok (.tuple #[.nilIface, .bool false]) w := run_typeAssert_lacksB Try.underlying80 (by kernel_rfl) (by kernel_rfl) v xT w
theorem is_noUn (v : Value) (xT : TypeId) (w : World) : (Instr.typeAssert (.iface 30 v) xT 83 true).run Try.prog w = .ok (.tuple #[.nilIface, .bool false]) w := run_typeAssert_lacksB Try.underlying83 (by kernel_rfl) (by kernel_rfl) v xT w
theorem is_noUns (v : Value) (xT : TypeId) (w : World) : (Instr.typeAssert (.iface 30 v) xT 85 true).run Try.prog w = .ok (.tuple #[.nilIface, .bool false]) w := run_typeAssert_lacksB Try.underlying85 (by kernel_rfl) (by kernel_rfl) v xT w
theorem is_eq3 (w : World) : (binOp .eql 61 (.iface 30 (.int .i64 3)) (.iface 30 (.int .i64 3))).run Try.prog w = .ok (.bool true) w := by kernel_rfl
theorem is_eq10 (w : World) : (binOp .eql 61 (.iface 30 (.int .i64 10)) (.iface 30 (.int .i64 3))).run Try.prog w = .ok (.bool false) w := by kernel_rfl
theorem is_method (n : Nat) (v : Value) (w : World) : (Go.method (n + 1) 78 v "Comparable").run Try.prog w = .ok (59, v) w := by kernel_rfl
/-- What the model gives for 'Comparable'. -/
def isComp : Array Value → Sem Value := Extern.ReflectliteType.method fun t => do Rtype.noPackHeld "Comparable" t; pure (.bool (← typeInfo t).comparable)
theorem is_comparable (w : World) : (isComp #[.agg #[.pointer (some ⟨0, 30, none⟩)]]).run Try.prog w = .ok (.bool true) w := by kernel_rfl
theorem is_callComp (args : Array Value) (w : World) : (callFunc 59 args).run Try.prog w = ((isComp args).run Try.prog w).andThen fun v w' => .ok (Next.value v) w' :=
  @run_callFunc_extern Try.prog 59 _ isComp Try.func59 (by kernel_rfl) (by kernel_rfl) (by kernel_rfl) (by kernel_rfl) args w
theorem is_big (w : World) : Calls Try.prog 33 #[.iface 30 (.int .i64 3), .iface 30 (.int .i64 3)] w fun e w' => e = .returned (.bool true) ∧ w' = w := by
  have h8 := @run_callFunc_extern Try.prog 38 _ Extern.ReflectliteType.typeOf Try.func38 (by kernel_rfl) (by kernel_rfl) (by kernel_rfl) (by kernel_rfl)
  have h32 := is_callComp
  have tT := is_typeOf
  have cT := is_comparable
  have mR := is_method
  have heq := is_eq3
  go_enter Try.func33, Try.ntmps33
  go_wp2
  refine wp_loop_rounds 1 ?_
  rw [rounds_succ]
  go_wp2
  go_ret
  exact ⟨rfl, rfl⟩
theorem is_end (w : World) : Calls Try.prog 33 #[.iface 30 (.int .i64 10), .iface 30 (.int .i64 3)] w fun e w' => e = .returned (.bool false) ∧ w' = w := by
  have h8 := @run_callFunc_extern Try.prog 38 _ Extern.ReflectliteType.typeOf Try.func38 (by kernel_rfl) (by kernel_rfl) (by kernel_rfl) (by kernel_rfl)
  have h32 := is_callComp
  have tT := is_typeOf
  have cT := is_comparable
  have mR := is_method
  have heq := is_eq10
  have nE := is_noIs
  have uE := is_noUn
  have vE := is_noUns
  go_enter Try.func33, Try.ntmps33
  go_wp2
  refine wp_loop_rounds 1 ?_
  rw [rounds_succ]
  go_wp2
  go_ret
  exact ⟨rfl, rfl⟩
end Go.Proofs.Ytcmpiockcndejaa
