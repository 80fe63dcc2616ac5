/-
  No cell of these rows narrows 'for every input' (looked for: loops, veiled, ifaces, maps, wideKeys, modest, calm, conditions, laid).
  DERIVED. THE GIVEN ROWS OF THIS SEAT. 4 by the template 'for every input the law returns true; each argument reads behind the call as it read before'; 0 by the template 'total and deterministic' (their statements: YtcpagoeaknlieaaTotals.lean).
  GIVEN WITH THE SEED: the statements are not yours to turn. If you find one false, say at which input.
  Laid BY PROGRAM, IN A SANDBOX (cutbox-rows.mjs): the forced cells as the released guide's own fill.sh prints them over the translation 00058b98d4dee3cc… (all of the seat's roots in one cut). By AI agents, Wed Nov 11 2026. No macro, syntax, notation, axiom, sorry.
-/
import Derived.Test.YtcpagoeaknlieaaChecked
import GoSem.Claim
import GoSem.ClaimJoined
import GoSem.ClaimMapViews
import Derived.JoinedTies
import Derived.KernelRfl
namespace Go.Proofs.Ytcpagoeaknlieaa
/- THE CELL 'sum', in the pinned program and in every row, IS THE sha256 OF THE DUMP (.gsa) THAT YtcpagoeaknlieaaProg.lean LOADS. Nothing in Lean hashes anything: it is a label: what it is worth is what the hold of that sum in a sandbox is worth. -/
noncomputable def Try.pinned : Pinned := { name := "ytcpagoeaknlieaa", sum := "00058b98d4dee3cc556e1ff94ded3f82a0b75f6044a50699d7fbd7669968b7b7", checked := Try.checked }
namespace Rows
def none {H : Type} : Left H := { results := [], args := [] }

/-- 'coffretlaw05.PolySums': WHATEVER THE INPUT: true; the input reads as it did. -/
def polySumsSpec : ChangeSpec := { name := "polySums", fn := fun _ => fun
  | [d1, d2] => { results := [.lit (.bool true)], args := [d1, d2] }
  | _ => none }
def polySumsRow : OpenClaim := { program := "ytcpagoeaknlieaa", sum := "00058b98d4dee3cc556e1ff94ded3f82a0b75f6044a50699d7fbd7669968b7b7", func := "coffret/coffretlaw05.PolySums", spec := "polySums", apart := false }
def PolySumsSaid : Prop := polySumsRow.holds Try.pinned (OpenSpec.ofChange polySumsSpec)

/-- ITS FALSE NEIGHBOUR: 'it returns false'. Refute it at one input. -/
def polySumsWrong : ChangeSpec := { name := "polySums", fn := fun _ => fun
  | [d1, d2] => { results := [.lit (.bool false)], args := [d1, d2] }
  | _ => none }
def PolySumsWrongFalsely : Prop := polySumsRow.holds Try.pinned (OpenSpec.ofChange polySumsWrong)

/-- 'coffretlaw05.PolyKeys': WHATEVER THE INPUT: true; the input reads as it did. -/
def polyKeysSpec : ChangeSpec := { name := "polyKeys", fn := fun _ => fun
  | [d1, d2] => { results := [.lit (.bool true)], args := [d1, d2] }
  | _ => none }
def polyKeysRow : OpenClaim := { program := "ytcpagoeaknlieaa", sum := "00058b98d4dee3cc556e1ff94ded3f82a0b75f6044a50699d7fbd7669968b7b7", func := "coffret/coffretlaw05.PolyKeys", spec := "polyKeys", apart := false }
def PolyKeysSaid : Prop := polyKeysRow.holds Try.pinned (OpenSpec.ofChange polyKeysSpec)

/-- ITS FALSE NEIGHBOUR: 'it returns false'. Refute it at one input. -/
def polyKeysWrong : ChangeSpec := { name := "polyKeys", fn := fun _ => fun
  | [d1, d2] => { results := [.lit (.bool false)], args := [d1, d2] }
  | _ => none }
def PolyKeysWrongFalsely : Prop := polyKeysRow.holds Try.pinned (OpenSpec.ofChange polyKeysWrong)

/-- 'coffretlaw05.PolyLinear': WHATEVER THE INPUT: true; the input reads as it did. -/
def polyLinearSpec : ChangeSpec := { name := "polyLinear", fn := fun _ => fun
  | [d1, d2, d3] => { results := [.lit (.bool true)], args := [d1, d2, d3] }
  | _ => none }
def polyLinearRow : OpenClaim := { program := "ytcpagoeaknlieaa", sum := "00058b98d4dee3cc556e1ff94ded3f82a0b75f6044a50699d7fbd7669968b7b7", func := "coffret/coffretlaw05.PolyLinear", spec := "polyLinear", apart := false }
def PolyLinearSaid : Prop := polyLinearRow.holds Try.pinned (OpenSpec.ofChange polyLinearSpec)

/-- ITS FALSE NEIGHBOUR: 'it returns false'. Refute it at one input. -/
def polyLinearWrong : ChangeSpec := { name := "polyLinear", fn := fun _ => fun
  | [d1, d2, d3] => { results := [.lit (.bool false)], args := [d1, d2, d3] }
  | _ => none }
def PolyLinearWrongFalsely : Prop := polyLinearRow.holds Try.pinned (OpenSpec.ofChange polyLinearWrong)

/-- 'coffretlaw05.PolyShifts': WHATEVER THE INPUT: true; the input reads as it did. -/
def polyShiftsSpec : ChangeSpec := { name := "polyShifts", fn := fun _ => fun
  | [d1, d2, d3] => { results := [.lit (.bool true)], args := [d1, d2, d3] }
  | _ => none }
def polyShiftsRow : OpenClaim := { program := "ytcpagoeaknlieaa", sum := "00058b98d4dee3cc556e1ff94ded3f82a0b75f6044a50699d7fbd7669968b7b7", func := "coffret/coffretlaw05.PolyShifts", spec := "polyShifts", apart := false }
def PolyShiftsSaid : Prop := polyShiftsRow.holds Try.pinned (OpenSpec.ofChange polyShiftsSpec)

/-- ITS FALSE NEIGHBOUR: 'it returns false'. Refute it at one input. -/
def polyShiftsWrong : ChangeSpec := { name := "polyShifts", fn := fun _ => fun
  | [d1, d2, d3] => { results := [.lit (.bool false)], args := [d1, d2, d3] }
  | _ => none }
def PolyShiftsWrongFalsely : Prop := polyShiftsRow.holds Try.pinned (OpenSpec.ofChange polyShiftsWrong)

/- THE SECOND FORM. 'bulk': how many values and letters a reading holds, each counted each time it is reached (what is shared counts as often as it is met; a slice's spare places count too). A statement '..UptoSaid' is the law's where the arguments, and the package variables that the reading takes, are together of bulk at most 1048576: NARROWER than '..Said'. Prove '..Said' where nothing that the law and all that it calls make is longer than what came in: it says more and counts as full. Else prove '..UptoSaid'. A law counts once. -/
mutual
def uptoBulk {H : Type} : DataW H → Nat
  | .lit (.string bytes) => bytes.length + 1
  | .lit _ => 1
  | .nil => 1
  | .ptr d => uptoBulk d + 1
  | .slice elems spare => uptoBulkAll elems + uptoBulkAll spare + 1
  | .agg parts => uptoBulkAll parts + 1
  | .iface _ d => uptoBulk d + 1
  | .map entries => uptoBulkEntries entries + 1
  | .held _ => 1
def uptoBulkAll {H : Type} : List (DataW H) → Nat
  | [] => 0
  | d :: r => uptoBulk d + uptoBulkAll r
def uptoBulkEntries {H : Type} : List (Lit × DataW H) → Nat
  | [] => 0
  | x :: r => uptoBulkEntry x + uptoBulkEntries r
def uptoBulkEntry {H : Type} : Lit × DataW H → Nat
  | (.string bytes, d) => bytes.length + uptoBulk d + 1
  | (_, d) => uptoBulk d + 1
 end
def uptoSmall : (H : Type) → List (DataW H) → Bool := fun _ ds => decide (uptoBulkAll ds ≤ 1048576)
def OpenSpec.upto (s : _root_.Go.ChangeSpec) : _root_.Go.OpenSpec := { _root_.Go.OpenSpec.ofChange s with cond := some uptoSmall }

/-- 'coffretlaw05.PolySums', WHERE WHAT IT READS IS OF BULK AT MOST 1048576: true; the input reads as it did. -/
def polySumsUptoRow : OpenClaim := { program := "ytcpagoeaknlieaa", sum := "00058b98d4dee3cc556e1ff94ded3f82a0b75f6044a50699d7fbd7669968b7b7", func := "coffret/coffretlaw05.PolySums", spec := "polySums", apart := false, narrowed := true }
def PolySumsUptoSaid : Prop := polySumsUptoRow.holds Try.pinned (OpenSpec.upto polySumsSpec)

/-- 'coffretlaw05.PolyKeys', WHERE WHAT IT READS IS OF BULK AT MOST 1048576: true; the input reads as it did. -/
def polyKeysUptoRow : OpenClaim := { program := "ytcpagoeaknlieaa", sum := "00058b98d4dee3cc556e1ff94ded3f82a0b75f6044a50699d7fbd7669968b7b7", func := "coffret/coffretlaw05.PolyKeys", spec := "polyKeys", apart := false, narrowed := true }
def PolyKeysUptoSaid : Prop := polyKeysUptoRow.holds Try.pinned (OpenSpec.upto polyKeysSpec)

/-- 'coffretlaw05.PolyLinear', WHERE WHAT IT READS IS OF BULK AT MOST 1048576: true; the input reads as it did. -/
def polyLinearUptoRow : OpenClaim := { program := "ytcpagoeaknlieaa", sum := "00058b98d4dee3cc556e1ff94ded3f82a0b75f6044a50699d7fbd7669968b7b7", func := "coffret/coffretlaw05.PolyLinear", spec := "polyLinear", apart := false, narrowed := true }
def PolyLinearUptoSaid : Prop := polyLinearUptoRow.holds Try.pinned (OpenSpec.upto polyLinearSpec)

/-- 'coffretlaw05.PolyShifts', WHERE WHAT IT READS IS OF BULK AT MOST 1048576: true; the input reads as it did. -/
def polyShiftsUptoRow : OpenClaim := { program := "ytcpagoeaknlieaa", sum := "00058b98d4dee3cc556e1ff94ded3f82a0b75f6044a50699d7fbd7669968b7b7", func := "coffret/coffretlaw05.PolyShifts", spec := "polyShifts", apart := false, narrowed := true }
def PolyShiftsUptoSaid : Prop := polyShiftsUptoRow.holds Try.pinned (OpenSpec.upto polyShiftsSpec)

end Rows
end Go.Proofs.Ytcpagoeaknlieaa
