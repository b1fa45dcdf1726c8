/-
  DERIVED. GIVEN WITH THE SEED: THE CARDS: each row of YtoppfdchohkgaaaGreatDoorRows.lean that lists a variable, with what it lists TIED to the program's text (the seventh form; the later family's looks); each row that meets fmt, with fmt's text TOLD by the authors' own Lean function (tested against real Go, not proved from fmt's source: count such statements apart). THE CARD IS WHAT COUNTS. Prove the row's statement (the work); the ties are given (YtoppfdchohkgaaaGreatDoorTie.lean); close each card by the builder's one call (the guide's Derived/Test/ToyasCard.lean, 'card_holds'). Laid BY PROGRAM, IN A SANDBOX (cutbox-door.mjs). By AI agents, Wed Nov 11 2026. No macro, syntax, notation, axiom, sorry.
-/
import Derived.Test.YtoppfdchohkgaaaGreatDoorRows
import GoSem.ClaimSeven
namespace Go.Proofs.YtoppfdchohkgaaaGreatDoor
namespace Rows

/-- THE TIED CARD OF 'consistorylaw28.ReplicaFolds'. -/
def replicaFoldsCard : Claim7 := { stood := { row := replicaFoldsRow, standIns := [], harness := (true, "3241b8471d5bc0166798443725e3c636c51d6c50718ec6e99dbac15d5437a5aa"), looks := false }, kinds := [], alts := [], laidByText := true, laidKinds := [.data, .pinned], laidTests := true, laidLooks := .later }
def ReplicaFoldsCardSaid : Prop := Claim7.holds Tryz.pinned (.plain (OpenSpec.ofChange replicaFoldsSpec)) replicaFoldsCard

/-- THE SECOND FORM's CARD OF 'consistorylaw28.ReplicaFolds'. -/
def replicaFoldsUptoCard : Claim7 := { stood := { row := replicaFoldsUptoRow, standIns := [], harness := (true, "3241b8471d5bc0166798443725e3c636c51d6c50718ec6e99dbac15d5437a5aa"), looks := false }, kinds := [], alts := [], laidByText := true, laidKinds := [.data, .pinned], laidTests := true, laidLooks := .later }
def ReplicaFoldsUptoCardSaid : Prop := Claim7.holds Tryz.pinned (.plain (OpenSpec.upto replicaFoldsSpec)) replicaFoldsUptoCard
end Rows
end Go.Proofs.YtoppfdchohkgaaaGreatDoor
