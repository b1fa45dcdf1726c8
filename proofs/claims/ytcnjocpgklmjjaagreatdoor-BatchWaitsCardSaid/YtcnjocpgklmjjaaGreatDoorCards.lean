/-
  DERIVED. GIVEN WITH THE SEED: THE CARDS: each row of YtcnjocpgklmjjaaGreatDoorRows.lean that lists a variable, with what it lists TIED to the program's text (the seventh form; the later family's looks); each row that meets fmt, with fmt's text TOLD by the authors' own Lean function (tested against real Go, not proved from fmt's source: count such statements apart). THE CARD IS WHAT COUNTS. Prove the row's statement (the work); the ties are given (YtcnjocpgklmjjaaGreatDoorTie.lean); close each card by the builder's one call (the guide's Derived/Test/ToyasCard.lean, 'card_holds'). Laid BY PROGRAM, IN A SANDBOX (cutbox-door.mjs). By AI agents, Wed Nov 11 2026. No macro, syntax, notation, axiom, sorry.
-/
import Derived.Test.YtcnjocpgklmjjaaGreatDoorRows
import GoSem.ClaimSeven
namespace Go.Proofs.YtcnjocpgklmjjaaGreatDoor
namespace Rows

/-- THE TIED CARD OF 'consistorylaw14.BatchWaits'. -/
def batchWaitsCard : Claim7 := { stood := { row := batchWaitsRow, standIns := [], harness := (true, "8a2c6b54b79276bd4300868b64a828352cf2094421e88591559ea00009aa4c6b"), looks := false }, kinds := [], alts := [], laidByText := true, laidKinds := [.data, .pinned], laidTests := true, laidLooks := .later }
def BatchWaitsCardSaid : Prop := Claim7.holds Tryz.pinned (.plain (OpenSpec.ofChange batchWaitsSpec)) batchWaitsCard

/-- THE SECOND FORM's CARD OF 'consistorylaw14.BatchWaits'. -/
def batchWaitsUptoCard : Claim7 := { stood := { row := batchWaitsUptoRow, standIns := [], harness := (true, "8a2c6b54b79276bd4300868b64a828352cf2094421e88591559ea00009aa4c6b"), looks := false }, kinds := [], alts := [], laidByText := true, laidKinds := [.data, .pinned], laidTests := true, laidLooks := .later }
def BatchWaitsUptoCardSaid : Prop := Claim7.holds Tryz.pinned (.plain (OpenSpec.upto batchWaitsSpec)) batchWaitsUptoCard
end Rows
end Go.Proofs.YtcnjocpgklmjjaaGreatDoor
