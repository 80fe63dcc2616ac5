/-
  No cell of these rows narrows 'for every input' (looked for: loops, veiled, ifaces, maps, wideKeys, modest, calm, conditions, laid).
  DERIVED. THE GIVEN ROWS OF THIS SEAT. 5 by the template 'for every input the law returns true; each argument reads behind the call as it read before'; 0 by the template 'total and deterministic' (their statements: YtldjiigkebkgcaaTotals.lean).
  GIVEN WITH THE SEED: the statements are not yours to turn. If you find one false, say at which input.
  Laid BY PROGRAM, IN A SANDBOX (cutbox-rows.mjs): the forced cells as the released guide's own fill.sh prints them over the translation 4eb96c5fbfe7c1b9… (all of the seat's roots in one cut). By AI agents, Wed Nov 11 2026. No macro, syntax, notation, axiom, sorry.
-/
import Derived.Test.YtldjiigkebkgcaaChecked
import GoSem.Claim
import GoSem.ClaimJoined
import GoSem.ClaimMapViews
import Derived.JoinedTies
import Derived.KernelRfl
namespace Go.Proofs.Ytldjiigkebkgcaa
/- THE CELL 'sum', in the pinned program and in every row, IS THE sha256 OF THE DUMP (.gsa) THAT YtldjiigkebkgcaaProg.lean LOADS. Nothing in Lean hashes anything: it is a label: what it is worth is what the hold of that sum in a sandbox is worth. -/
noncomputable def Try.pinned : Pinned := { name := "ytldjiigkebkgcaa", sum := "4eb96c5fbfe7c1b912817bfe15e95389ff8f1e994ee2b13cf2a4df87a204bbfa", checked := Try.checked }
namespace Rows
def none {H : Type} : Left H := { results := [], args := [] }

/-- 'coffretlaw08.BoxBack': WHATEVER THE INPUT: true; the input reads as it did. -/
def boxBackSpec : ChangeSpec := { name := "boxBack", fn := fun _ => fun
  | [d1, d2, d3] => { results := [.lit (.bool true)], args := [d1, d2, d3] }
  | _ => none }
def boxBackRow : OpenClaim := { program := "ytldjiigkebkgcaa", sum := "4eb96c5fbfe7c1b912817bfe15e95389ff8f1e994ee2b13cf2a4df87a204bbfa", func := "coffret/coffretlaw08.BoxBack", spec := "boxBack", unfollowed := true, recurses := true, apart := false }
def BoxBackSaid : Prop := boxBackRow.holds Try.pinned (OpenSpec.ofChange boxBackSpec)

/-- ITS FALSE NEIGHBOUR: 'it returns false'. Refute it at one input. -/
def boxBackWrong : ChangeSpec := { name := "boxBack", fn := fun _ => fun
  | [d1, d2, d3] => { results := [.lit (.bool false)], args := [d1, d2, d3] }
  | _ => none }
def BoxBackWrongFalsely : Prop := boxBackRow.holds Try.pinned (OpenSpec.ofChange boxBackWrong)

/-- 'coffretlaw08.BoxReal': WHATEVER THE INPUT: true; the input reads as it did. -/
def boxRealSpec : ChangeSpec := { name := "boxReal", fn := fun _ => fun
  | [d1, d2, d3] => { results := [.lit (.bool true)], args := [d1, d2, d3] }
  | _ => none }
def boxRealRow : OpenClaim := { program := "ytldjiigkebkgcaa", sum := "4eb96c5fbfe7c1b912817bfe15e95389ff8f1e994ee2b13cf2a4df87a204bbfa", func := "coffret/coffretlaw08.BoxReal", spec := "boxReal", unfollowed := true, recurses := true, apart := false }
def BoxRealSaid : Prop := boxRealRow.holds Try.pinned (OpenSpec.ofChange boxRealSpec)

/-- ITS FALSE NEIGHBOUR: 'it returns false'. Refute it at one input. -/
def boxRealWrong : ChangeSpec := { name := "boxReal", fn := fun _ => fun
  | [d1, d2, d3] => { results := [.lit (.bool false)], args := [d1, d2, d3] }
  | _ => none }
def BoxRealWrongFalsely : Prop := boxRealRow.holds Try.pinned (OpenSpec.ofChange boxRealWrong)

/-- 'coffretlaw08.BoxIdeal': WHATEVER THE INPUT: true; the input reads as it did. -/
def boxIdealSpec : ChangeSpec := { name := "boxIdeal", fn := fun _ => fun
  | [d1, d2, d3] => { results := [.lit (.bool true)], args := [d1, d2, d3] }
  | _ => none }
def boxIdealRow : OpenClaim := { program := "ytldjiigkebkgcaa", sum := "4eb96c5fbfe7c1b912817bfe15e95389ff8f1e994ee2b13cf2a4df87a204bbfa", func := "coffret/coffretlaw08.BoxIdeal", spec := "boxIdeal", unfollowed := true, recurses := true, apart := false }
def BoxIdealSaid : Prop := boxIdealRow.holds Try.pinned (OpenSpec.ofChange boxIdealSpec)

/-- ITS FALSE NEIGHBOUR: 'it returns false'. Refute it at one input. -/
def boxIdealWrong : ChangeSpec := { name := "boxIdeal", fn := fun _ => fun
  | [d1, d2, d3] => { results := [.lit (.bool false)], args := [d1, d2, d3] }
  | _ => none }
def BoxIdealWrongFalsely : Prop := boxIdealRow.holds Try.pinned (OpenSpec.ofChange boxIdealWrong)

/-- 'coffretlaw08.BoxPlays': WHATEVER THE INPUT: true; the input reads as it did. -/
def boxPlaysSpec : ChangeSpec := { name := "boxPlays", fn := fun _ => fun
  | [d1, d2, d3] => { results := [.lit (.bool true)], args := [d1, d2, d3] }
  | _ => none }
def boxPlaysRow : OpenClaim := { program := "ytldjiigkebkgcaa", sum := "4eb96c5fbfe7c1b912817bfe15e95389ff8f1e994ee2b13cf2a4df87a204bbfa", func := "coffret/coffretlaw08.BoxPlays", spec := "boxPlays", unfollowed := true, recurses := true, apart := false }
def BoxPlaysSaid : Prop := boxPlaysRow.holds Try.pinned (OpenSpec.ofChange boxPlaysSpec)

/-- ITS FALSE NEIGHBOUR: 'it returns false'. Refute it at one input. -/
def boxPlaysWrong : ChangeSpec := { name := "boxPlays", fn := fun _ => fun
  | [d1, d2, d3] => { results := [.lit (.bool false)], args := [d1, d2, d3] }
  | _ => none }
def BoxPlaysWrongFalsely : Prop := boxPlaysRow.holds Try.pinned (OpenSpec.ofChange boxPlaysWrong)

/-- 'coffretlaw08.BoxNobody': WHATEVER THE INPUT: true; the input reads as it did. -/
def boxNobodySpec : ChangeSpec := { name := "boxNobody", fn := fun _ => fun
  | [d] => { results := [.lit (.bool true)], args := [d] }
  | _ => none }
def boxNobodyRow : OpenClaim := { program := "ytldjiigkebkgcaa", sum := "4eb96c5fbfe7c1b912817bfe15e95389ff8f1e994ee2b13cf2a4df87a204bbfa", func := "coffret/coffretlaw08.BoxNobody", spec := "boxNobody", unfollowed := true, recurses := true, apart := false }
def BoxNobodySaid : Prop := boxNobodyRow.holds Try.pinned (OpenSpec.ofChange boxNobodySpec)

/-- ITS FALSE NEIGHBOUR: 'it returns false'. Refute it at one input. -/
def boxNobodyWrong : ChangeSpec := { name := "boxNobody", fn := fun _ => fun
  | [d] => { results := [.lit (.bool false)], args := [d] }
  | _ => none }
def BoxNobodyWrongFalsely : Prop := boxNobodyRow.holds Try.pinned (OpenSpec.ofChange boxNobodyWrong)

/- THE SECOND FORM. 'bulk': how many values and letters a reading holds, each counted each time it is reached (what is shared counts as often as it is met; a slice's spare places count too). A statement '..UptoSaid' is the law's where the arguments, and the package variables that the reading takes, are together of bulk at most 1048576: NARROWER than '..Said'. Prove '..Said' where nothing that the law and all that it calls make is longer than what came in: it says more and counts as full. Else prove '..UptoSaid'. A law counts once. -/
mutual
def uptoBulk {H : Type} : DataW H → Nat
  | .lit (.string bytes) => bytes.length + 1
  | .lit _ => 1
  | .nil => 1
  | .ptr d => uptoBulk d + 1
  | .slice elems spare => uptoBulkAll elems + uptoBulkAll spare + 1
  | .agg parts => uptoBulkAll parts + 1
  | .iface _ d => uptoBulk d + 1
  | .map entries => uptoBulkEntries entries + 1
  | .held _ => 1
def uptoBulkAll {H : Type} : List (DataW H) → Nat
  | [] => 0
  | d :: r => uptoBulk d + uptoBulkAll r
def uptoBulkEntries {H : Type} : List (Lit × DataW H) → Nat
  | [] => 0
  | x :: r => uptoBulkEntry x + uptoBulkEntries r
def uptoBulkEntry {H : Type} : Lit × DataW H → Nat
  | (.string bytes, d) => bytes.length + uptoBulk d + 1
  | (_, d) => uptoBulk d + 1
 end
def uptoSmall : (H : Type) → List (DataW H) → Bool := fun _ ds => decide (uptoBulkAll ds ≤ 1048576)
def OpenSpec.upto (s : _root_.Go.ChangeSpec) : _root_.Go.OpenSpec := { _root_.Go.OpenSpec.ofChange s with cond := some uptoSmall }

/-- 'coffretlaw08.BoxBack', WHERE WHAT IT READS IS OF BULK AT MOST 1048576: true; the input reads as it did. -/
def boxBackUptoRow : OpenClaim := { program := "ytldjiigkebkgcaa", sum := "4eb96c5fbfe7c1b912817bfe15e95389ff8f1e994ee2b13cf2a4df87a204bbfa", func := "coffret/coffretlaw08.BoxBack", spec := "boxBack", unfollowed := true, recurses := true, apart := false, narrowed := true }
def BoxBackUptoSaid : Prop := boxBackUptoRow.holds Try.pinned (OpenSpec.upto boxBackSpec)

/-- 'coffretlaw08.BoxReal', WHERE WHAT IT READS IS OF BULK AT MOST 1048576: true; the input reads as it did. -/
def boxRealUptoRow : OpenClaim := { program := "ytldjiigkebkgcaa", sum := "4eb96c5fbfe7c1b912817bfe15e95389ff8f1e994ee2b13cf2a4df87a204bbfa", func := "coffret/coffretlaw08.BoxReal", spec := "boxReal", unfollowed := true, recurses := true, apart := false, narrowed := true }
def BoxRealUptoSaid : Prop := boxRealUptoRow.holds Try.pinned (OpenSpec.upto boxRealSpec)

/-- 'coffretlaw08.BoxIdeal', WHERE WHAT IT READS IS OF BULK AT MOST 1048576: true; the input reads as it did. -/
def boxIdealUptoRow : OpenClaim := { program := "ytldjiigkebkgcaa", sum := "4eb96c5fbfe7c1b912817bfe15e95389ff8f1e994ee2b13cf2a4df87a204bbfa", func := "coffret/coffretlaw08.BoxIdeal", spec := "boxIdeal", unfollowed := true, recurses := true, apart := false, narrowed := true }
def BoxIdealUptoSaid : Prop := boxIdealUptoRow.holds Try.pinned (OpenSpec.upto boxIdealSpec)

/-- 'coffretlaw08.BoxPlays', WHERE WHAT IT READS IS OF BULK AT MOST 1048576: true; the input reads as it did. -/
def boxPlaysUptoRow : OpenClaim := { program := "ytldjiigkebkgcaa", sum := "4eb96c5fbfe7c1b912817bfe15e95389ff8f1e994ee2b13cf2a4df87a204bbfa", func := "coffret/coffretlaw08.BoxPlays", spec := "boxPlays", unfollowed := true, recurses := true, apart := false, narrowed := true }
def BoxPlaysUptoSaid : Prop := boxPlaysUptoRow.holds Try.pinned (OpenSpec.upto boxPlaysSpec)

/-- 'coffretlaw08.BoxNobody', WHERE WHAT IT READS IS OF BULK AT MOST 1048576: true; the input reads as it did. -/
def boxNobodyUptoRow : OpenClaim := { program := "ytldjiigkebkgcaa", sum := "4eb96c5fbfe7c1b912817bfe15e95389ff8f1e994ee2b13cf2a4df87a204bbfa", func := "coffret/coffretlaw08.BoxNobody", spec := "boxNobody", unfollowed := true, recurses := true, apart := false, narrowed := true }
def BoxNobodyUptoSaid : Prop := boxNobodyUptoRow.holds Try.pinned (OpenSpec.upto boxNobodySpec)

end Rows
end Go.Proofs.Ytldjiigkebkgcaa
