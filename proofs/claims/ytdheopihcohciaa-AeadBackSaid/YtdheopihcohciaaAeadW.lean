/- Words for the walks of this layer's laws. No condition but those each theorem states. -/
import Derived.Test.YtdheopihcohciaaAeadOne
import Derived.Test.YtdheopihcohciaaMasks
import Derived.Deep.DeepCutAuto
namespace Go.Proofs.Ytdheopihcohciaa
set_option linter.unusedVariables false
set_option linter.unusedSimpArgs false
open Go.RowKit

/-- The key, boxed, and two texts behind an array. -/
structure BgW (w : World) (k : List UInt8) (W : World) : Prop where
  bel : Below w.heap.size w W
  bk : W.heap[w.heap.size]? = some (.cells (W8 k) 23 (0, 0))
theorem BgW.keep {w W W' : World} {k : List UInt8} (h : BgW w k W) (hb : Below W.heap.size W W') : BgW w k W' := ⟨h.bel.trans (hb.mono h.bel.size), below_block hb (row_lt h.bk) h.bk⟩
theorem seal_take (k n b t : List UInt8) (m : Nat) (hm : m ≤ t.length) : (sealL k n b t).take m = streamL k n 1 (t.take m) := by
  rw [sealL, List.take_append_of_le_length (by rw [streamL_length]; exact hm), streamL_take]
theorem run_build_nonce {o : Oper} {a : Act} {x : UInt8} (z : Int) (hz : z = (x.toNat : Int)) (ho : o.op = .build 27 #[(0, .const (.int .u8 z))]) (W : World) : (execOp a.eval o).run Try.prog W = .ok (.value (.agg (W8 (x :: List.replicate 11 0)))) W := by
  subst hz
  have h2 : ∀ W : World, (Instr.build 27 #[(0, .int .u8 (x.toNat : Int))]).run Try.prog W = .ok (.agg (W8 (x :: List.replicate 11 0))) W := by
    intro W
    kernel_rfl
  unfold execOp
  simp only [ho, List.map_toArray, List.map_cons, List.map_nil, Act.eval, Sem.run_bind, h2, Result.andThen_ok, Sem.run_pure]
end Go.Proofs.Ytdheopihcohciaa
