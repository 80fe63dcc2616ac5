/-
  DERIVED. GIVEN WITH THE SEED: THE CARDS: each row of YtihllbhmnkckaaaDoorRows.lean that lists a variable, with what it lists TIED to the program's text (the seventh form; the later family's looks); each row that meets fmt, with fmt's text TOLD by the authors' own Lean function (tested against real Go, not proved from fmt's source: count such statements apart). THE CARD IS WHAT COUNTS. Prove the row's statement (the work); the ties are given (YtihllbhmnkckaaaDoorTie.lean); close each card by the builder's one call (the guide's Derived/Test/ToyasCard.lean, 'card_holds'). Laid BY PROGRAM, IN A SANDBOX (cutbox-door.mjs). By AI agents, Wed Nov 11 2026. No macro, syntax, notation, axiom, sorry.
-/
import Derived.Test.YtihllbhmnkckaaaDoorRows
import GoSem.ClaimSeven
namespace Go.Proofs.YtihllbhmnkckaaaDoor
namespace Rows

/-- THE TIED CARD OF 'coffretlaw12.ChunkBack'. -/
def chunkBackCard : Claim7 := { stood := { row := chunkBackRow, standIns := [], harness := (true, "ebba710819d1e8cacaabb182d96fdedaf3d42908f2fc80158ca49ef8ab335aec"), looks := true }, kinds := [], alts := [], laidByText := true, laidKinds := [.data, .pinned], laidTests := true, laidLooks := .later }
def ChunkBackCardSaid : Prop := Claim7.holds Tryd.pinned (.plain (OpenSpec.ofChange chunkBackSpec)) chunkBackCard

/-- THE TIED CARD OF 'coffretlaw12.ChunkPads'. -/
def chunkPadsCard : Claim7 := { stood := { row := chunkPadsRow, standIns := [], harness := (true, "ebba710819d1e8cacaabb182d96fdedaf3d42908f2fc80158ca49ef8ab335aec"), looks := true }, kinds := [], alts := [], laidByText := true, laidKinds := [.data, .pinned], laidTests := true, laidLooks := .later }
def ChunkPadsCardSaid : Prop := Claim7.holds Tryd.pinned (.plain (OpenSpec.ofChange chunkPadsSpec)) chunkPadsCard

/-- THE SECOND FORM's CARD OF 'coffretlaw12.ChunkBack'. -/
def chunkBackUptoCard : Claim7 := { stood := { row := chunkBackUptoRow, standIns := [], harness := (true, "ebba710819d1e8cacaabb182d96fdedaf3d42908f2fc80158ca49ef8ab335aec"), looks := true }, kinds := [], alts := [], laidByText := true, laidKinds := [.data, .pinned], laidTests := true, laidLooks := .later }
def ChunkBackUptoCardSaid : Prop := Claim7.holds Tryd.pinned (.plain (OpenSpec.upto chunkBackSpec)) chunkBackUptoCard

/-- THE SECOND FORM's CARD OF 'coffretlaw12.ChunkPads'. -/
def chunkPadsUptoCard : Claim7 := { stood := { row := chunkPadsUptoRow, standIns := [], harness := (true, "ebba710819d1e8cacaabb182d96fdedaf3d42908f2fc80158ca49ef8ab335aec"), looks := true }, kinds := [], alts := [], laidByText := true, laidKinds := [.data, .pinned], laidTests := true, laidLooks := .later }
def ChunkPadsUptoCardSaid : Prop := Claim7.holds Tryd.pinned (.plain (OpenSpec.upto chunkPadsSpec)) chunkPadsUptoCard
end Rows
end Go.Proofs.YtihllbhmnkckaaaDoor
