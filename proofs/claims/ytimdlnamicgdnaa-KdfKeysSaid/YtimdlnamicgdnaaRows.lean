/-
  No cell of these rows narrows 'for every input' (looked for: loops, veiled, ifaces, maps, wideKeys, modest, calm, conditions, laid).
  DERIVED. THE GIVEN ROWS OF THIS SEAT. 5 by the template 'for every input the law returns true; each argument reads behind the call as it read before'; 0 by the template 'total and deterministic' (their statements: YtimdlnamicgdnaaTotals.lean).
  GIVEN WITH THE SEED: the statements are not yours to turn. If you find one false, say at which input.
  Laid BY PROGRAM, IN A SANDBOX (cutbox-rows.mjs): the forced cells as the released guide's own fill.sh prints them over the translation b0426f8a5bf1523d… (all of the seat's roots in one cut). By AI agents, Wed Nov 11 2026. No macro, syntax, notation, axiom, sorry.
-/
import Derived.Test.YtimdlnamicgdnaaChecked
import GoSem.Claim
import GoSem.ClaimJoined
import GoSem.ClaimMapViews
import Derived.JoinedTies
import Derived.KernelRfl
namespace Go.Proofs.Ytimdlnamicgdnaa
/- THE CELL 'sum', in the pinned program and in every row, IS THE sha256 OF THE DUMP (.gsa) THAT YtimdlnamicgdnaaProg.lean LOADS. Nothing in Lean hashes anything: it is a label: what it is worth is what the hold of that sum in a sandbox is worth. -/
noncomputable def Try.pinned : Pinned := { name := "ytimdlnamicgdnaa", sum := "b0426f8a5bf1523d75d5dfcc556499f8a118433d6f87274be4ad98878001a576", checked := Try.checked }
namespace Rows
def none {H : Type} : Left H := { results := [], args := [] }

/-- 'coffretlaw03.KdfMacs': WHATEVER THE INPUT: true; the input reads as it did. -/
def kdfMacsSpec : ChangeSpec := { name := "kdfMacs", fn := fun _ => fun
  | [d1, d2, d3] => { results := [.lit (.bool true)], args := [d1, d2, d3] }
  | _ => none }
def kdfMacsRow : OpenClaim := { program := "ytimdlnamicgdnaa", sum := "b0426f8a5bf1523d75d5dfcc556499f8a118433d6f87274be4ad98878001a576", func := "coffret/coffretlaw03.KdfMacs", spec := "kdfMacs", unfollowed := true, recurses := true, apart := false }
def KdfMacsSaid : Prop := kdfMacsRow.holds Try.pinned (OpenSpec.ofChange kdfMacsSpec)

/-- ITS FALSE NEIGHBOUR: 'it returns false'. Refute it at one input. -/
def kdfMacsWrong : ChangeSpec := { name := "kdfMacs", fn := fun _ => fun
  | [d1, d2, d3] => { results := [.lit (.bool false)], args := [d1, d2, d3] }
  | _ => none }
def KdfMacsWrongFalsely : Prop := kdfMacsRow.holds Try.pinned (OpenSpec.ofChange kdfMacsWrong)

/-- 'coffretlaw03.KdfKeys': WHATEVER THE INPUT: true; the input reads as it did. -/
def kdfKeysSpec : ChangeSpec := { name := "kdfKeys", fn := fun _ => fun
  | [d1, d2] => { results := [.lit (.bool true)], args := [d1, d2] }
  | _ => none }
def kdfKeysRow : OpenClaim := { program := "ytimdlnamicgdnaa", sum := "b0426f8a5bf1523d75d5dfcc556499f8a118433d6f87274be4ad98878001a576", func := "coffret/coffretlaw03.KdfKeys", spec := "kdfKeys", unfollowed := true, recurses := true, apart := false }
def KdfKeysSaid : Prop := kdfKeysRow.holds Try.pinned (OpenSpec.ofChange kdfKeysSpec)

/-- ITS FALSE NEIGHBOUR: 'it returns false'. Refute it at one input. -/
def kdfKeysWrong : ChangeSpec := { name := "kdfKeys", fn := fun _ => fun
  | [d1, d2] => { results := [.lit (.bool false)], args := [d1, d2] }
  | _ => none }
def KdfKeysWrongFalsely : Prop := kdfKeysRow.holds Try.pinned (OpenSpec.ofChange kdfKeysWrong)

/-- 'coffretlaw03.KdfEquals': WHATEVER THE INPUT: true; the input reads as it did. -/
def kdfEqualsSpec : ChangeSpec := { name := "kdfEquals", fn := fun _ => fun
  | [d1, d2] => { results := [.lit (.bool true)], args := [d1, d2] }
  | _ => none }
def kdfEqualsRow : OpenClaim := { program := "ytimdlnamicgdnaa", sum := "b0426f8a5bf1523d75d5dfcc556499f8a118433d6f87274be4ad98878001a576", func := "coffret/coffretlaw03.KdfEquals", spec := "kdfEquals", unfollowed := true, recurses := true, apart := false }
def KdfEqualsSaid : Prop := kdfEqualsRow.holds Try.pinned (OpenSpec.ofChange kdfEqualsSpec)

/-- ITS FALSE NEIGHBOUR: 'it returns false'. Refute it at one input. -/
def kdfEqualsWrong : ChangeSpec := { name := "kdfEquals", fn := fun _ => fun
  | [d1, d2] => { results := [.lit (.bool false)], args := [d1, d2] }
  | _ => none }
def KdfEqualsWrongFalsely : Prop := kdfEqualsRow.holds Try.pinned (OpenSpec.ofChange kdfEqualsWrong)

/-- 'coffretlaw03.KdfExpands': WHATEVER THE INPUT: true; the input reads as it did. -/
def kdfExpandsSpec : ChangeSpec := { name := "kdfExpands", fn := fun _ => fun
  | [d1, d2, d3] => { results := [.lit (.bool true)], args := [d1, d2, d3] }
  | _ => none }
def kdfExpandsRow : OpenClaim := { program := "ytimdlnamicgdnaa", sum := "b0426f8a5bf1523d75d5dfcc556499f8a118433d6f87274be4ad98878001a576", func := "coffret/coffretlaw03.KdfExpands", spec := "kdfExpands", unfollowed := true, recurses := true, apart := false }
def KdfExpandsSaid : Prop := kdfExpandsRow.holds Try.pinned (OpenSpec.ofChange kdfExpandsSpec)

/-- ITS FALSE NEIGHBOUR: 'it returns false'. Refute it at one input. -/
def kdfExpandsWrong : ChangeSpec := { name := "kdfExpands", fn := fun _ => fun
  | [d1, d2, d3] => { results := [.lit (.bool false)], args := [d1, d2, d3] }
  | _ => none }
def KdfExpandsWrongFalsely : Prop := kdfExpandsRow.holds Try.pinned (OpenSpec.ofChange kdfExpandsWrong)

/-- 'coffretlaw03.KdfDerives': WHATEVER THE INPUT: true; the input reads as it did. -/
def kdfDerivesSpec : ChangeSpec := { name := "kdfDerives", fn := fun _ => fun
  | [d1, d2, d3] => { results := [.lit (.bool true)], args := [d1, d2, d3] }
  | _ => none }
def kdfDerivesRow : OpenClaim := { program := "ytimdlnamicgdnaa", sum := "b0426f8a5bf1523d75d5dfcc556499f8a118433d6f87274be4ad98878001a576", func := "coffret/coffretlaw03.KdfDerives", spec := "kdfDerives", unfollowed := true, recurses := true, apart := false }
def KdfDerivesSaid : Prop := kdfDerivesRow.holds Try.pinned (OpenSpec.ofChange kdfDerivesSpec)

/-- ITS FALSE NEIGHBOUR: 'it returns false'. Refute it at one input. -/
def kdfDerivesWrong : ChangeSpec := { name := "kdfDerives", fn := fun _ => fun
  | [d1, d2, d3] => { results := [.lit (.bool false)], args := [d1, d2, d3] }
  | _ => none }
def KdfDerivesWrongFalsely : Prop := kdfDerivesRow.holds Try.pinned (OpenSpec.ofChange kdfDerivesWrong)

/- THE SECOND FORM. 'bulk': how many values and letters a reading holds, each counted each time it is reached (what is shared counts as often as it is met; a slice's spare places count too). A statement '..UptoSaid' is the law's where the arguments, and the package variables that the reading takes, are together of bulk at most 1048576: NARROWER than '..Said'. Prove '..Said' where nothing that the law and all that it calls make is longer than what came in: it says more and counts as full. Else prove '..UptoSaid'. A law counts once. -/
mutual
def uptoBulk {H : Type} : DataW H → Nat
  | .lit (.string bytes) => bytes.length + 1
  | .lit _ => 1
  | .nil => 1
  | .ptr d => uptoBulk d + 1
  | .slice elems spare => uptoBulkAll elems + uptoBulkAll spare + 1
  | .agg parts => uptoBulkAll parts + 1
  | .iface _ d => uptoBulk d + 1
  | .map entries => uptoBulkEntries entries + 1
  | .held _ => 1
def uptoBulkAll {H : Type} : List (DataW H) → Nat
  | [] => 0
  | d :: r => uptoBulk d + uptoBulkAll r
def uptoBulkEntries {H : Type} : List (Lit × DataW H) → Nat
  | [] => 0
  | x :: r => uptoBulkEntry x + uptoBulkEntries r
def uptoBulkEntry {H : Type} : Lit × DataW H → Nat
  | (.string bytes, d) => bytes.length + uptoBulk d + 1
  | (_, d) => uptoBulk d + 1
 end
def uptoSmall : (H : Type) → List (DataW H) → Bool := fun _ ds => decide (uptoBulkAll ds ≤ 1048576)
def OpenSpec.upto (s : _root_.Go.ChangeSpec) : _root_.Go.OpenSpec := { _root_.Go.OpenSpec.ofChange s with cond := some uptoSmall }

/-- 'coffretlaw03.KdfMacs', WHERE WHAT IT READS IS OF BULK AT MOST 1048576: true; the input reads as it did. -/
def kdfMacsUptoRow : OpenClaim := { program := "ytimdlnamicgdnaa", sum := "b0426f8a5bf1523d75d5dfcc556499f8a118433d6f87274be4ad98878001a576", func := "coffret/coffretlaw03.KdfMacs", spec := "kdfMacs", unfollowed := true, recurses := true, apart := false, narrowed := true }
def KdfMacsUptoSaid : Prop := kdfMacsUptoRow.holds Try.pinned (OpenSpec.upto kdfMacsSpec)

/-- 'coffretlaw03.KdfKeys', WHERE WHAT IT READS IS OF BULK AT MOST 1048576: true; the input reads as it did. -/
def kdfKeysUptoRow : OpenClaim := { program := "ytimdlnamicgdnaa", sum := "b0426f8a5bf1523d75d5dfcc556499f8a118433d6f87274be4ad98878001a576", func := "coffret/coffretlaw03.KdfKeys", spec := "kdfKeys", unfollowed := true, recurses := true, apart := false, narrowed := true }
def KdfKeysUptoSaid : Prop := kdfKeysUptoRow.holds Try.pinned (OpenSpec.upto kdfKeysSpec)

/-- 'coffretlaw03.KdfEquals', WHERE WHAT IT READS IS OF BULK AT MOST 1048576: true; the input reads as it did. -/
def kdfEqualsUptoRow : OpenClaim := { program := "ytimdlnamicgdnaa", sum := "b0426f8a5bf1523d75d5dfcc556499f8a118433d6f87274be4ad98878001a576", func := "coffret/coffretlaw03.KdfEquals", spec := "kdfEquals", unfollowed := true, recurses := true, apart := false, narrowed := true }
def KdfEqualsUptoSaid : Prop := kdfEqualsUptoRow.holds Try.pinned (OpenSpec.upto kdfEqualsSpec)

/-- 'coffretlaw03.KdfExpands', WHERE WHAT IT READS IS OF BULK AT MOST 1048576: true; the input reads as it did. -/
def kdfExpandsUptoRow : OpenClaim := { program := "ytimdlnamicgdnaa", sum := "b0426f8a5bf1523d75d5dfcc556499f8a118433d6f87274be4ad98878001a576", func := "coffret/coffretlaw03.KdfExpands", spec := "kdfExpands", unfollowed := true, recurses := true, apart := false, narrowed := true }
def KdfExpandsUptoSaid : Prop := kdfExpandsUptoRow.holds Try.pinned (OpenSpec.upto kdfExpandsSpec)

/-- 'coffretlaw03.KdfDerives', WHERE WHAT IT READS IS OF BULK AT MOST 1048576: true; the input reads as it did. -/
def kdfDerivesUptoRow : OpenClaim := { program := "ytimdlnamicgdnaa", sum := "b0426f8a5bf1523d75d5dfcc556499f8a118433d6f87274be4ad98878001a576", func := "coffret/coffretlaw03.KdfDerives", spec := "kdfDerives", unfollowed := true, recurses := true, apart := false, narrowed := true }
def KdfDerivesUptoSaid : Prop := kdfDerivesUptoRow.holds Try.pinned (OpenSpec.upto kdfDerivesSpec)

end Rows
end Go.Proofs.Ytimdlnamicgdnaa
