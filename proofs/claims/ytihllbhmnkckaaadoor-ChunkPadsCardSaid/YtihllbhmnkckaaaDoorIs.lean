/- errors.Is at two of the program's own numbers. No condition. -/
import Derived.Test.YtihllbhmnkckaaaDoorChecked
import Derived.WalkKit
import Derived.LaidEql
import Derived.Stop.Asserts
import Derived.RowKitTokens
namespace Go.Proofs.YtihllbhmnkckaaaDoor
set_option linter.unusedVariables false
set_option linter.unusedSimpArgs false
open Go.RowKit Go.Extern.Stop Go.Stop Go.Extern

/-- The block that stands for types. -/
noncomputable def isGz : Nat := Tryd.prog.globals.size
theorem is_typeOf (v : Value) (w : World) : (Extern.ReflectliteType.typeOf #[.iface 23 v]).run Tryd.prog w = .ok (.iface 76 (.agg #[.pointer (some ⟨isGz, 23, none⟩)])) w := by kernel_rfl
theorem is_noIs (v : Value) (xT : TypeId) (w : World) : (Instr.typeAssert (.iface 23 v) xT 78 true).run Tryd.prog w = .ok (.tuple #[.nilIface, .bool false]) w := run_typeAssert_lacksB Tryd.underlying78 (by kernel_rfl) (by kernel_rfl) v xT w
theorem is_noUn (v : Value) (xT : TypeId) (w : World) : (Instr.typeAssert (.iface 23 v) xT 81 true).run Tryd.prog w = .ok (.tuple #[.nilIface, .bool false]) w := run_typeAssert_lacksB Tryd.underlying81 (by kernel_rfl) (by kernel_rfl) v xT w
theorem is_noUns (v : Value) (xT : TypeId) (w : World) : (Instr.typeAssert (.iface 23 v) xT 83 true).run Tryd.prog w = .ok (.tuple #[.nilIface, .bool false]) w := run_typeAssert_lacksB Tryd.underlying83 (by kernel_rfl) (by kernel_rfl) v xT w
theorem is_eq3 (w : World) : (binOp .eql 50 (.iface 23 (.int .i64 3)) (.iface 23 (.int .i64 3))).run Tryd.prog w = .ok (.bool true) w := by kernel_rfl
theorem is_eq10 (w : World) : (binOp .eql 50 (.iface 23 (.int .i64 10)) (.iface 23 (.int .i64 3))).run Tryd.prog w = .ok (.bool false) w := by kernel_rfl
theorem is_method (n : Nat) (v : Value) (w : World) : (Go.method (n + 1) 76 v "Comparable").run Tryd.prog w = .ok (67, v) w := by kernel_rfl
/-- What the model gives for 'Comparable'. -/
def isComp : Array Value → Sem Value := Extern.ReflectliteType.method fun t => do Rtype.noPackHeld "Comparable" t; pure (.bool (← typeInfo t).comparable)
theorem is_comparable (w : World) : (isComp #[.agg #[.pointer (some ⟨isGz, 23, none⟩)]]).run Tryd.prog w = .ok (.bool true) w := by kernel_rfl
theorem is_callComp (args : Array Value) (w : World) : (callFunc 67 args).run Tryd.prog w = ((isComp args).run Tryd.prog w).andThen fun v w' => .ok (Next.value v) w' :=
  @run_callFunc_extern Tryd.prog 67 _ isComp Tryd.func67 (by kernel_rfl) (by kernel_rfl) (by kernel_rfl) (by kernel_rfl) args w
theorem is_big (w : World) : Calls Tryd.prog 28 #[.iface 23 (.int .i64 3), .iface 23 (.int .i64 3)] w fun e w' => e = .returned (.bool true) ∧ w' = w := by
  have h8 := @run_callFunc_extern Tryd.prog 39 _ Extern.ReflectliteType.typeOf Tryd.func39 (by kernel_rfl) (by kernel_rfl) (by kernel_rfl) (by kernel_rfl)
  have h32 := is_callComp
  have tT := is_typeOf
  have cT := is_comparable
  have mR := is_method
  have heq := is_eq3
  go_enter Tryd.func28, Tryd.ntmps28
  go_wp2
  refine wp_loop_rounds 1 ?_
  rw [rounds_succ]
  go_wp2
  go_ret
  exact ⟨rfl, rfl⟩
theorem is_end (w : World) : Calls Tryd.prog 28 #[.iface 23 (.int .i64 10), .iface 23 (.int .i64 3)] w fun e w' => e = .returned (.bool false) ∧ w' = w := by
  have h8 := @run_callFunc_extern Tryd.prog 39 _ Extern.ReflectliteType.typeOf Tryd.func39 (by kernel_rfl) (by kernel_rfl) (by kernel_rfl) (by kernel_rfl)
  have h32 := is_callComp
  have tT := is_typeOf
  have cT := is_comparable
  have mR := is_method
  have heq := is_eq10
  have nE := is_noIs
  have uE := is_noUn
  have vE := is_noUns
  go_enter Tryd.func28, Tryd.ntmps28
  go_wp2
  refine wp_loop_rounds 1 ?_
  rw [rounds_succ]
  go_wp2
  go_ret
  exact ⟨rfl, rfl⟩
end Go.Proofs.YtihllbhmnkckaaaDoor
