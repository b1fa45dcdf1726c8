/-
  DERIVED. GIVEN WITH THE SEED: THE CARDS: each row of YteakdlhhamgfbaaDoorRows.lean that lists a variable, with what it lists TIED to the program's text (the seventh form; the later family's looks); each row that meets fmt, with fmt's text TOLD by the authors' own Lean function (tested against real Go, not proved from fmt's source: count such statements apart). THE CARD IS WHAT COUNTS. Prove the row's statement (the work); the ties are given (YteakdlhhamgfbaaDoorTie.lean); close each card by the builder's one call (the guide's Derived/Test/ToyasCard.lean, 'card_holds'). Laid BY PROGRAM, IN A SANDBOX (cutbox-door.mjs). By AI agents, Wed Nov 11 2026. No macro, syntax, notation, axiom, sorry.
-/
import Derived.Test.YteakdlhhamgfbaaDoorRows
import GoSem.ClaimSeven
namespace Go.Proofs.YteakdlhhamgfbaaDoor
namespace Rows

/-- THE TIED CARD OF 'consistorylaw08.PathTells'. -/
def pathTellsCard : Claim7 := { stood := { row := pathTellsRow, standIns := [], harness := (true, "e0ed2476dbdb41476afe005cdf99da27796db587b6b5b849c5d30d05baf81e8c"), looks := false }, kinds := [], alts := [], laidByText := true, laidKinds := [.data, .pinned], laidTests := true, laidLooks := .later }
def PathTellsCardSaid : Prop := Claim7.holds Tryd.pinned (.plain (OpenSpec.ofChange pathTellsSpec)) pathTellsCard

/-- THE TIED CARD OF 'consistorylaw08.PathOrder'. -/
def pathOrderCard : Claim7 := { stood := { row := pathOrderRow, standIns := [], harness := (true, "e0ed2476dbdb41476afe005cdf99da27796db587b6b5b849c5d30d05baf81e8c"), looks := false }, kinds := [], alts := [], laidByText := true, laidKinds := [.data, .pinned], laidTests := true, laidLooks := .later }
def PathOrderCardSaid : Prop := Claim7.holds Tryd.pinned (.plain (OpenSpec.ofChange pathOrderSpec)) pathOrderCard

/-- THE TIED CARD OF 'consistorylaw11.WatchOnce'. -/
def watchOnceCard : Claim7 := { stood := { row := watchOnceRow, standIns := [], harness := (true, "e0ed2476dbdb41476afe005cdf99da27796db587b6b5b849c5d30d05baf81e8c"), looks := false }, kinds := [], alts := [], laidByText := true, laidKinds := [.data, .pinned], laidTests := true, laidLooks := .later }
def WatchOnceCardSaid : Prop := Claim7.holds Tryd.pinned (.plain (OpenSpec.ofChange watchOnceSpec)) watchOnceCard

/-- THE TIED CARD OF 'consistorylaw11.WatchTurns'. -/
def watchTurnsCard : Claim7 := { stood := { row := watchTurnsRow, standIns := [], harness := (true, "e0ed2476dbdb41476afe005cdf99da27796db587b6b5b849c5d30d05baf81e8c"), looks := false }, kinds := [], alts := [], laidByText := true, laidKinds := [.data, .pinned], laidTests := true, laidLooks := .later }
def WatchTurnsCardSaid : Prop := Claim7.holds Tryd.pinned (.plain (OpenSpec.ofChange watchTurnsSpec)) watchTurnsCard

/-- THE TIED CARD OF 'consistorylaw11.WatchCancels'. -/
def watchCancelsCard : Claim7 := { stood := { row := watchCancelsRow, standIns := [], harness := (true, "e0ed2476dbdb41476afe005cdf99da27796db587b6b5b849c5d30d05baf81e8c"), looks := false }, kinds := [], alts := [], laidByText := true, laidKinds := [.data, .pinned], laidTests := true, laidLooks := .later }
def WatchCancelsCardSaid : Prop := Claim7.holds Tryd.pinned (.plain (OpenSpec.ofChange watchCancelsSpec)) watchCancelsCard

/-- THE TIED CARD OF 'consistorylaw08.PathTwo'. -/
def pathTwoCard : Claim7 := { stood := { row := pathTwoRow, standIns := [], harness := (true, "e0ed2476dbdb41476afe005cdf99da27796db587b6b5b849c5d30d05baf81e8c"), looks := false }, kinds := [], alts := [], laidByText := true, laidKinds := [.data, .pinned], laidTests := true, laidLooks := .later }
def PathTwoCardSaid : Prop := Claim7.holds Tryd.pinned (.plain (OpenSpec.ofChange pathTwoSpec)) pathTwoCard

/-- THE TIED CARD OF 'consistorylaw11.WatchPieces'. -/
def watchPiecesCard : Claim7 := { stood := { row := watchPiecesRow, standIns := [], harness := (true, "e0ed2476dbdb41476afe005cdf99da27796db587b6b5b849c5d30d05baf81e8c"), looks := false }, kinds := [], alts := [], laidByText := true, laidKinds := [.data, .pinned], laidTests := true, laidLooks := .later }
def WatchPiecesCardSaid : Prop := Claim7.holds Tryd.pinned (.plain (OpenSpec.ofChange watchPiecesSpec)) watchPiecesCard

/-- THE TIED CARD OF 'consistorylaw08.PathJoins'. -/
def pathJoinsCard : Claim7 := { stood := { row := pathJoinsRow, standIns := [], harness := (true, "e0ed2476dbdb41476afe005cdf99da27796db587b6b5b849c5d30d05baf81e8c"), looks := false }, kinds := [], alts := [], laidByText := true, laidKinds := [.data, .pinned], laidTests := true, laidLooks := .later }
def PathJoinsCardSaid : Prop := Claim7.holds Tryd.pinned (.plain (OpenSpec.ofChange pathJoinsSpec)) pathJoinsCard

/-- THE TIED CARD OF 'consistorylaw08.PathMade'. -/
def pathMadeCard : Claim7 := { stood := { row := pathMadeRow, standIns := [], harness := (true, "e0ed2476dbdb41476afe005cdf99da27796db587b6b5b849c5d30d05baf81e8c"), looks := false }, kinds := [], alts := [], laidByText := true, laidKinds := [.data, .pinned], laidTests := true, laidLooks := .later }
def PathMadeCardSaid : Prop := Claim7.holds Tryd.pinned (.plain (OpenSpec.ofChange pathMadeSpec)) pathMadeCard

/-- THE TIED CARD OF 'consistorylaw11.WatchMay'. -/
def watchMayCard : Claim7 := { stood := { row := watchMayRow, standIns := [], harness := (true, "e0ed2476dbdb41476afe005cdf99da27796db587b6b5b849c5d30d05baf81e8c"), looks := false }, kinds := [], alts := [], laidByText := true, laidKinds := [.data, .pinned], laidTests := true, laidLooks := .later }
def WatchMayCardSaid : Prop := Claim7.holds Tryd.pinned (.plain (OpenSpec.ofChange watchMaySpec)) watchMayCard

/-- THE TIED CARD OF 'consistorylaw09.ShelfMay'. -/
def shelfMayCard : Claim7 := { stood := { row := shelfMayRow, standIns := [], harness := (true, "e0ed2476dbdb41476afe005cdf99da27796db587b6b5b849c5d30d05baf81e8c"), looks := false }, kinds := [], alts := [], laidByText := true, laidKinds := [.data, .pinned], laidTests := true, laidLooks := .later }
def ShelfMayCardSaid : Prop := Claim7.holds Tryd.pinned (.plain (OpenSpec.ofChange shelfMaySpec)) shelfMayCard

/-- THE TIED CARD OF 'consistorylaw09.ShelfAsks'. -/
def shelfAsksCard : Claim7 := { stood := { row := shelfAsksRow, standIns := [], harness := (true, "e0ed2476dbdb41476afe005cdf99da27796db587b6b5b849c5d30d05baf81e8c"), looks := false }, kinds := [], alts := [], laidByText := true, laidKinds := [.data, .pinned], laidTests := true, laidLooks := .later }
def ShelfAsksCardSaid : Prop := Claim7.holds Tryd.pinned (.plain (OpenSpec.ofChange shelfAsksSpec)) shelfAsksCard

/-- THE TIED CARD OF 'consistorylaw09.ShelfDrops'. -/
def shelfDropsCard : Claim7 := { stood := { row := shelfDropsRow, standIns := [], harness := (true, "e0ed2476dbdb41476afe005cdf99da27796db587b6b5b849c5d30d05baf81e8c"), looks := false }, kinds := [], alts := [], laidByText := true, laidKinds := [.data, .pinned], laidTests := true, laidLooks := .later }
def ShelfDropsCardSaid : Prop := Claim7.holds Tryd.pinned (.plain (OpenSpec.ofChange shelfDropsSpec)) shelfDropsCard

/-- THE TIED CARD OF 'consistorylaw09.ShelfKids'. -/
def shelfKidsCard : Claim7 := { stood := { row := shelfKidsRow, standIns := [], harness := (true, "e0ed2476dbdb41476afe005cdf99da27796db587b6b5b849c5d30d05baf81e8c"), looks := false }, kinds := [], alts := [], laidByText := true, laidKinds := [.data, .pinned], laidTests := true, laidLooks := .later }
def ShelfKidsCardSaid : Prop := Claim7.holds Tryd.pinned (.plain (OpenSpec.ofChange shelfKidsSpec)) shelfKidsCard

/-- THE TIED CARD OF 'consistorylaw09.ShelfJust'. -/
def shelfJustCard : Claim7 := { stood := { row := shelfJustRow, standIns := [], harness := (true, "e0ed2476dbdb41476afe005cdf99da27796db587b6b5b849c5d30d05baf81e8c"), looks := false }, kinds := [], alts := [], laidByText := true, laidKinds := [.data, .pinned], laidTests := true, laidLooks := .later }
def ShelfJustCardSaid : Prop := Claim7.holds Tryd.pinned (.plain (OpenSpec.ofChange shelfJustSpec)) shelfJustCard

/-- THE TIED CARD OF 'consistorylaw09.ShelfChanges'. -/
def shelfChangesCard : Claim7 := { stood := { row := shelfChangesRow, standIns := [], harness := (true, "e0ed2476dbdb41476afe005cdf99da27796db587b6b5b849c5d30d05baf81e8c"), looks := false }, kinds := [], alts := [], laidByText := true, laidKinds := [.data, .pinned], laidTests := true, laidLooks := .later }
def ShelfChangesCardSaid : Prop := Claim7.holds Tryd.pinned (.plain (OpenSpec.ofChange shelfChangesSpec)) shelfChangesCard

/-- THE SECOND FORM's CARD OF 'consistorylaw08.PathTells'. -/
def pathTellsUptoCard : Claim7 := { stood := { row := pathTellsUptoRow, standIns := [], harness := (true, "e0ed2476dbdb41476afe005cdf99da27796db587b6b5b849c5d30d05baf81e8c"), looks := false }, kinds := [], alts := [], laidByText := true, laidKinds := [.data, .pinned], laidTests := true, laidLooks := .later }
def PathTellsUptoCardSaid : Prop := Claim7.holds Tryd.pinned (.plain (OpenSpec.upto pathTellsSpec)) pathTellsUptoCard

/-- THE SECOND FORM's CARD OF 'consistorylaw08.PathOrder'. -/
def pathOrderUptoCard : Claim7 := { stood := { row := pathOrderUptoRow, standIns := [], harness := (true, "e0ed2476dbdb41476afe005cdf99da27796db587b6b5b849c5d30d05baf81e8c"), looks := false }, kinds := [], alts := [], laidByText := true, laidKinds := [.data, .pinned], laidTests := true, laidLooks := .later }
def PathOrderUptoCardSaid : Prop := Claim7.holds Tryd.pinned (.plain (OpenSpec.upto pathOrderSpec)) pathOrderUptoCard

/-- THE SECOND FORM's CARD OF 'consistorylaw11.WatchOnce'. -/
def watchOnceUptoCard : Claim7 := { stood := { row := watchOnceUptoRow, standIns := [], harness := (true, "e0ed2476dbdb41476afe005cdf99da27796db587b6b5b849c5d30d05baf81e8c"), looks := false }, kinds := [], alts := [], laidByText := true, laidKinds := [.data, .pinned], laidTests := true, laidLooks := .later }
def WatchOnceUptoCardSaid : Prop := Claim7.holds Tryd.pinned (.plain (OpenSpec.upto watchOnceSpec)) watchOnceUptoCard

/-- THE SECOND FORM's CARD OF 'consistorylaw11.WatchTurns'. -/
def watchTurnsUptoCard : Claim7 := { stood := { row := watchTurnsUptoRow, standIns := [], harness := (true, "e0ed2476dbdb41476afe005cdf99da27796db587b6b5b849c5d30d05baf81e8c"), looks := false }, kinds := [], alts := [], laidByText := true, laidKinds := [.data, .pinned], laidTests := true, laidLooks := .later }
def WatchTurnsUptoCardSaid : Prop := Claim7.holds Tryd.pinned (.plain (OpenSpec.upto watchTurnsSpec)) watchTurnsUptoCard

/-- THE SECOND FORM's CARD OF 'consistorylaw11.WatchCancels'. -/
def watchCancelsUptoCard : Claim7 := { stood := { row := watchCancelsUptoRow, standIns := [], harness := (true, "e0ed2476dbdb41476afe005cdf99da27796db587b6b5b849c5d30d05baf81e8c"), looks := false }, kinds := [], alts := [], laidByText := true, laidKinds := [.data, .pinned], laidTests := true, laidLooks := .later }
def WatchCancelsUptoCardSaid : Prop := Claim7.holds Tryd.pinned (.plain (OpenSpec.upto watchCancelsSpec)) watchCancelsUptoCard

/-- THE SECOND FORM's CARD OF 'consistorylaw08.PathTwo'. -/
def pathTwoUptoCard : Claim7 := { stood := { row := pathTwoUptoRow, standIns := [], harness := (true, "e0ed2476dbdb41476afe005cdf99da27796db587b6b5b849c5d30d05baf81e8c"), looks := false }, kinds := [], alts := [], laidByText := true, laidKinds := [.data, .pinned], laidTests := true, laidLooks := .later }
def PathTwoUptoCardSaid : Prop := Claim7.holds Tryd.pinned (.plain (OpenSpec.upto pathTwoSpec)) pathTwoUptoCard

/-- THE SECOND FORM's CARD OF 'consistorylaw11.WatchPieces'. -/
def watchPiecesUptoCard : Claim7 := { stood := { row := watchPiecesUptoRow, standIns := [], harness := (true, "e0ed2476dbdb41476afe005cdf99da27796db587b6b5b849c5d30d05baf81e8c"), looks := false }, kinds := [], alts := [], laidByText := true, laidKinds := [.data, .pinned], laidTests := true, laidLooks := .later }
def WatchPiecesUptoCardSaid : Prop := Claim7.holds Tryd.pinned (.plain (OpenSpec.upto watchPiecesSpec)) watchPiecesUptoCard

/-- THE SECOND FORM's CARD OF 'consistorylaw08.PathJoins'. -/
def pathJoinsUptoCard : Claim7 := { stood := { row := pathJoinsUptoRow, standIns := [], harness := (true, "e0ed2476dbdb41476afe005cdf99da27796db587b6b5b849c5d30d05baf81e8c"), looks := false }, kinds := [], alts := [], laidByText := true, laidKinds := [.data, .pinned], laidTests := true, laidLooks := .later }
def PathJoinsUptoCardSaid : Prop := Claim7.holds Tryd.pinned (.plain (OpenSpec.upto pathJoinsSpec)) pathJoinsUptoCard

/-- THE SECOND FORM's CARD OF 'consistorylaw08.PathMade'. -/
def pathMadeUptoCard : Claim7 := { stood := { row := pathMadeUptoRow, standIns := [], harness := (true, "e0ed2476dbdb41476afe005cdf99da27796db587b6b5b849c5d30d05baf81e8c"), looks := false }, kinds := [], alts := [], laidByText := true, laidKinds := [.data, .pinned], laidTests := true, laidLooks := .later }
def PathMadeUptoCardSaid : Prop := Claim7.holds Tryd.pinned (.plain (OpenSpec.upto pathMadeSpec)) pathMadeUptoCard

/-- THE SECOND FORM's CARD OF 'consistorylaw11.WatchMay'. -/
def watchMayUptoCard : Claim7 := { stood := { row := watchMayUptoRow, standIns := [], harness := (true, "e0ed2476dbdb41476afe005cdf99da27796db587b6b5b849c5d30d05baf81e8c"), looks := false }, kinds := [], alts := [], laidByText := true, laidKinds := [.data, .pinned], laidTests := true, laidLooks := .later }
def WatchMayUptoCardSaid : Prop := Claim7.holds Tryd.pinned (.plain (OpenSpec.upto watchMaySpec)) watchMayUptoCard

/-- THE SECOND FORM's CARD OF 'consistorylaw09.ShelfMay'. -/
def shelfMayUptoCard : Claim7 := { stood := { row := shelfMayUptoRow, standIns := [], harness := (true, "e0ed2476dbdb41476afe005cdf99da27796db587b6b5b849c5d30d05baf81e8c"), looks := false }, kinds := [], alts := [], laidByText := true, laidKinds := [.data, .pinned], laidTests := true, laidLooks := .later }
def ShelfMayUptoCardSaid : Prop := Claim7.holds Tryd.pinned (.plain (OpenSpec.upto shelfMaySpec)) shelfMayUptoCard

/-- THE SECOND FORM's CARD OF 'consistorylaw09.ShelfAsks'. -/
def shelfAsksUptoCard : Claim7 := { stood := { row := shelfAsksUptoRow, standIns := [], harness := (true, "e0ed2476dbdb41476afe005cdf99da27796db587b6b5b849c5d30d05baf81e8c"), looks := false }, kinds := [], alts := [], laidByText := true, laidKinds := [.data, .pinned], laidTests := true, laidLooks := .later }
def ShelfAsksUptoCardSaid : Prop := Claim7.holds Tryd.pinned (.plain (OpenSpec.upto shelfAsksSpec)) shelfAsksUptoCard

/-- THE SECOND FORM's CARD OF 'consistorylaw09.ShelfDrops'. -/
def shelfDropsUptoCard : Claim7 := { stood := { row := shelfDropsUptoRow, standIns := [], harness := (true, "e0ed2476dbdb41476afe005cdf99da27796db587b6b5b849c5d30d05baf81e8c"), looks := false }, kinds := [], alts := [], laidByText := true, laidKinds := [.data, .pinned], laidTests := true, laidLooks := .later }
def ShelfDropsUptoCardSaid : Prop := Claim7.holds Tryd.pinned (.plain (OpenSpec.upto shelfDropsSpec)) shelfDropsUptoCard

/-- THE SECOND FORM's CARD OF 'consistorylaw09.ShelfKids'. -/
def shelfKidsUptoCard : Claim7 := { stood := { row := shelfKidsUptoRow, standIns := [], harness := (true, "e0ed2476dbdb41476afe005cdf99da27796db587b6b5b849c5d30d05baf81e8c"), looks := false }, kinds := [], alts := [], laidByText := true, laidKinds := [.data, .pinned], laidTests := true, laidLooks := .later }
def ShelfKidsUptoCardSaid : Prop := Claim7.holds Tryd.pinned (.plain (OpenSpec.upto shelfKidsSpec)) shelfKidsUptoCard

/-- THE SECOND FORM's CARD OF 'consistorylaw09.ShelfJust'. -/
def shelfJustUptoCard : Claim7 := { stood := { row := shelfJustUptoRow, standIns := [], harness := (true, "e0ed2476dbdb41476afe005cdf99da27796db587b6b5b849c5d30d05baf81e8c"), looks := false }, kinds := [], alts := [], laidByText := true, laidKinds := [.data, .pinned], laidTests := true, laidLooks := .later }
def ShelfJustUptoCardSaid : Prop := Claim7.holds Tryd.pinned (.plain (OpenSpec.upto shelfJustSpec)) shelfJustUptoCard

/-- THE SECOND FORM's CARD OF 'consistorylaw09.ShelfChanges'. -/
def shelfChangesUptoCard : Claim7 := { stood := { row := shelfChangesUptoRow, standIns := [], harness := (true, "e0ed2476dbdb41476afe005cdf99da27796db587b6b5b849c5d30d05baf81e8c"), looks := false }, kinds := [], alts := [], laidByText := true, laidKinds := [.data, .pinned], laidTests := true, laidLooks := .later }
def ShelfChangesUptoCardSaid : Prop := Claim7.holds Tryd.pinned (.plain (OpenSpec.upto shelfChangesSpec)) shelfChangesUptoCard
end Rows
end Go.Proofs.YteakdlhhamgfbaaDoor
