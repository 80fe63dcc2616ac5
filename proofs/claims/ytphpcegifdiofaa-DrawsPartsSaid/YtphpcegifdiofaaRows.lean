/-
  No cell of these rows narrows 'for every input' (looked for: loops, veiled, ifaces, maps, wideKeys, modest, calm, conditions, laid).
  DERIVED. THE GIVEN ROWS OF THIS SEAT. 3 by the template 'for every input the law returns true; each argument reads behind the call as it read before'; 0 by the template 'total and deterministic' (their statements: YtphpcegifdiofaaTotals.lean).
  GIVEN WITH THE SEED: the statements are not yours to turn. If you find one false, say at which input.
  Laid BY PROGRAM, IN A SANDBOX (cutbox-rows.mjs): the forced cells as the released guide's own fill.sh prints them over the translation 5604c2aca435d60a… (all of the seat's roots in one cut). By AI agents, Wed Nov 11 2026. No macro, syntax, notation, axiom, sorry.
-/
import Derived.Test.YtphpcegifdiofaaChecked
import GoSem.Claim
import GoSem.ClaimJoined
import GoSem.ClaimMapViews
import Derived.JoinedTies
import Derived.KernelRfl
namespace Go.Proofs.Ytphpcegifdiofaa
/- THE CELL 'sum', in the pinned program and in every row, IS THE sha256 OF THE DUMP (.gsa) THAT YtphpcegifdiofaaProg.lean LOADS. Nothing in Lean hashes anything: it is a label: what it is worth is what the hold of that sum in a sandbox is worth. -/
noncomputable def Try.pinned : Pinned := { name := "ytphpcegifdiofaa", sum := "5604c2aca435d60a74c671a0ca8161dc22a86a62ffa4fd82cd7c74efe6923f9a", checked := Try.checked }
namespace Rows
def none {H : Type} : Left H := { results := [], args := [] }

/-- 'coffretlaw07.DrawsTell': WHATEVER THE INPUT: true; the input reads as it did. -/
def drawsTellSpec : ChangeSpec := { name := "drawsTell", fn := fun _ => fun
  | [d1, d2, d3] => { results := [.lit (.bool true)], args := [d1, d2, d3] }
  | _ => none }
def drawsTellRow : OpenClaim := { program := "ytphpcegifdiofaa", sum := "5604c2aca435d60a74c671a0ca8161dc22a86a62ffa4fd82cd7c74efe6923f9a", func := "coffret/coffretlaw07.DrawsTell", spec := "drawsTell", apart := false }
def DrawsTellSaid : Prop := drawsTellRow.holds Try.pinned (OpenSpec.ofChange drawsTellSpec)

/-- ITS FALSE NEIGHBOUR: 'it returns false'. Refute it at one input. -/
def drawsTellWrong : ChangeSpec := { name := "drawsTell", fn := fun _ => fun
  | [d1, d2, d3] => { results := [.lit (.bool false)], args := [d1, d2, d3] }
  | _ => none }
def DrawsTellWrongFalsely : Prop := drawsTellRow.holds Try.pinned (OpenSpec.ofChange drawsTellWrong)

/-- 'coffretlaw07.DrawsFirst': WHATEVER THE INPUT: true; the input reads as it did. -/
def drawsFirstSpec : ChangeSpec := { name := "drawsFirst", fn := fun _ => fun
  | [d1, d2] => { results := [.lit (.bool true)], args := [d1, d2] }
  | _ => none }
def drawsFirstRow : OpenClaim := { program := "ytphpcegifdiofaa", sum := "5604c2aca435d60a74c671a0ca8161dc22a86a62ffa4fd82cd7c74efe6923f9a", func := "coffret/coffretlaw07.DrawsFirst", spec := "drawsFirst", apart := false }
def DrawsFirstSaid : Prop := drawsFirstRow.holds Try.pinned (OpenSpec.ofChange drawsFirstSpec)

/-- ITS FALSE NEIGHBOUR: 'it returns false'. Refute it at one input. -/
def drawsFirstWrong : ChangeSpec := { name := "drawsFirst", fn := fun _ => fun
  | [d1, d2] => { results := [.lit (.bool false)], args := [d1, d2] }
  | _ => none }
def DrawsFirstWrongFalsely : Prop := drawsFirstRow.holds Try.pinned (OpenSpec.ofChange drawsFirstWrong)

/-- 'coffretlaw07.DrawsParts': WHATEVER THE INPUT: true; the input reads as it did. -/
def drawsPartsSpec : ChangeSpec := { name := "drawsParts", fn := fun _ => fun
  | [d1, d2, d3] => { results := [.lit (.bool true)], args := [d1, d2, d3] }
  | _ => none }
def drawsPartsRow : OpenClaim := { program := "ytphpcegifdiofaa", sum := "5604c2aca435d60a74c671a0ca8161dc22a86a62ffa4fd82cd7c74efe6923f9a", func := "coffret/coffretlaw07.DrawsParts", spec := "drawsParts", apart := false }
def DrawsPartsSaid : Prop := drawsPartsRow.holds Try.pinned (OpenSpec.ofChange drawsPartsSpec)

/-- ITS FALSE NEIGHBOUR: 'it returns false'. Refute it at one input. -/
def drawsPartsWrong : ChangeSpec := { name := "drawsParts", fn := fun _ => fun
  | [d1, d2, d3] => { results := [.lit (.bool false)], args := [d1, d2, d3] }
  | _ => none }
def DrawsPartsWrongFalsely : Prop := drawsPartsRow.holds Try.pinned (OpenSpec.ofChange drawsPartsWrong)

/- THE SECOND FORM. 'bulk': how many values and letters a reading holds, each counted each time it is reached (what is shared counts as often as it is met; a slice's spare places count too). A statement '..UptoSaid' is the law's where the arguments, and the package variables that the reading takes, are together of bulk at most 1048576: NARROWER than '..Said'. Prove '..Said' where nothing that the law and all that it calls make is longer than what came in: it says more and counts as full. Else prove '..UptoSaid'. A law counts once. -/
mutual
def uptoBulk {H : Type} : DataW H → Nat
  | .lit (.string bytes) => bytes.length + 1
  | .lit _ => 1
  | .nil => 1
  | .ptr d => uptoBulk d + 1
  | .slice elems spare => uptoBulkAll elems + uptoBulkAll spare + 1
  | .agg parts => uptoBulkAll parts + 1
  | .iface _ d => uptoBulk d + 1
  | .map entries => uptoBulkEntries entries + 1
  | .held _ => 1
def uptoBulkAll {H : Type} : List (DataW H) → Nat
  | [] => 0
  | d :: r => uptoBulk d + uptoBulkAll r
def uptoBulkEntries {H : Type} : List (Lit × DataW H) → Nat
  | [] => 0
  | x :: r => uptoBulkEntry x + uptoBulkEntries r
def uptoBulkEntry {H : Type} : Lit × DataW H → Nat
  | (.string bytes, d) => bytes.length + uptoBulk d + 1
  | (_, d) => uptoBulk d + 1
 end
def uptoSmall : (H : Type) → List (DataW H) → Bool := fun _ ds => decide (uptoBulkAll ds ≤ 1048576)
def OpenSpec.upto (s : _root_.Go.ChangeSpec) : _root_.Go.OpenSpec := { _root_.Go.OpenSpec.ofChange s with cond := some uptoSmall }

/-- 'coffretlaw07.DrawsTell', WHERE WHAT IT READS IS OF BULK AT MOST 1048576: true; the input reads as it did. -/
def drawsTellUptoRow : OpenClaim := { program := "ytphpcegifdiofaa", sum := "5604c2aca435d60a74c671a0ca8161dc22a86a62ffa4fd82cd7c74efe6923f9a", func := "coffret/coffretlaw07.DrawsTell", spec := "drawsTell", apart := false, narrowed := true }
def DrawsTellUptoSaid : Prop := drawsTellUptoRow.holds Try.pinned (OpenSpec.upto drawsTellSpec)

/-- 'coffretlaw07.DrawsFirst', WHERE WHAT IT READS IS OF BULK AT MOST 1048576: true; the input reads as it did. -/
def drawsFirstUptoRow : OpenClaim := { program := "ytphpcegifdiofaa", sum := "5604c2aca435d60a74c671a0ca8161dc22a86a62ffa4fd82cd7c74efe6923f9a", func := "coffret/coffretlaw07.DrawsFirst", spec := "drawsFirst", apart := false, narrowed := true }
def DrawsFirstUptoSaid : Prop := drawsFirstUptoRow.holds Try.pinned (OpenSpec.upto drawsFirstSpec)

/-- 'coffretlaw07.DrawsParts', WHERE WHAT IT READS IS OF BULK AT MOST 1048576: true; the input reads as it did. -/
def drawsPartsUptoRow : OpenClaim := { program := "ytphpcegifdiofaa", sum := "5604c2aca435d60a74c671a0ca8161dc22a86a62ffa4fd82cd7c74efe6923f9a", func := "coffret/coffretlaw07.DrawsParts", spec := "drawsParts", apart := false, narrowed := true }
def DrawsPartsUptoSaid : Prop := drawsPartsUptoRow.holds Try.pinned (OpenSpec.upto drawsPartsSpec)

end Rows
end Go.Proofs.Ytphpcegifdiofaa
