/-
  DERIVED. GIVEN WITH THE SEED: THE CARDS: each row of YtbkodohojpchjaaGreatDoorRows.lean that lists a variable, with what it lists TIED to the program's text (the seventh form; the later family's looks); each row that meets fmt, with fmt's text TOLD by the authors' own Lean function (tested against real Go, not proved from fmt's source: count such statements apart). THE CARD IS WHAT COUNTS. Prove the row's statement (the work); the ties are given (YtbkodohojpchjaaGreatDoorTie.lean); close each card by the builder's one call (the guide's Derived/Test/ToyasCard.lean, 'card_holds'). Laid BY PROGRAM, IN A SANDBOX (cutbox-door.mjs). By AI agents, Wed Nov 11 2026. No macro, syntax, notation, axiom, sorry.
-/
import Derived.Test.YtbkodohojpchjaaGreatDoorRows
import GoSem.ClaimSeven
namespace Go.Proofs.YtbkodohojpchjaaGreatDoor
namespace Rows

/-- THE TIED CARD OF 'consistorylaw13.RealmApplies'. -/
def realmAppliesCard : Claim7 := { stood := { row := realmAppliesRow, standIns := [], harness := (true, "1335420d7d891a44bba6c38de108bf9718419bbf0bc013c3cbfd7cda2956bc14"), looks := false }, kinds := [], alts := [], laidByText := true, laidKinds := [.data, .pinned], laidTests := true, laidLooks := .later }
def RealmAppliesCardSaid : Prop := Claim7.holds Tryz.pinned (.plain (OpenSpec.ofChange realmAppliesSpec)) realmAppliesCard

/-- THE TIED CARD OF 'consistorylaw13.RealmEvents'. -/
def realmEventsCard : Claim7 := { stood := { row := realmEventsRow, standIns := [], harness := (true, "1335420d7d891a44bba6c38de108bf9718419bbf0bc013c3cbfd7cda2956bc14"), looks := false }, kinds := [], alts := [], laidByText := true, laidKinds := [.data, .pinned], laidTests := true, laidLooks := .later }
def RealmEventsCardSaid : Prop := Claim7.holds Tryz.pinned (.plain (OpenSpec.ofChange realmEventsSpec)) realmEventsCard

/-- THE TIED CARD OF 'consistorylaw13.RealmFolds'. -/
def realmFoldsCard : Claim7 := { stood := { row := realmFoldsRow, standIns := [], harness := (true, "1335420d7d891a44bba6c38de108bf9718419bbf0bc013c3cbfd7cda2956bc14"), looks := false }, kinds := [], alts := [], laidByText := true, laidKinds := [.data, .pinned], laidTests := true, laidLooks := .later }
def RealmFoldsCardSaid : Prop := Claim7.holds Tryz.pinned (.plain (OpenSpec.ofChange realmFoldsSpec)) realmFoldsCard

/-- THE TIED CARD OF 'consistorylaw13.RealmOnce'. -/
def realmOnceCard : Claim7 := { stood := { row := realmOnceRow, standIns := [], harness := (true, "1335420d7d891a44bba6c38de108bf9718419bbf0bc013c3cbfd7cda2956bc14"), looks := false }, kinds := [], alts := [], laidByText := true, laidKinds := [.data, .pinned], laidTests := true, laidLooks := .later }
def RealmOnceCardSaid : Prop := Claim7.holds Tryz.pinned (.plain (OpenSpec.ofChange realmOnceSpec)) realmOnceCard

/-- THE TIED CARD OF 'consistorylaw13.RealmReads'. -/
def realmReadsCard : Claim7 := { stood := { row := realmReadsRow, standIns := [], harness := (true, "1335420d7d891a44bba6c38de108bf9718419bbf0bc013c3cbfd7cda2956bc14"), looks := false }, kinds := [], alts := [], laidByText := true, laidKinds := [.data, .pinned], laidTests := true, laidLooks := .later }
def RealmReadsCardSaid : Prop := Claim7.holds Tryz.pinned (.plain (OpenSpec.ofChange realmReadsSpec)) realmReadsCard

/-- THE TIED CARD OF 'consistorylaw13.RealmOwners'. -/
def realmOwnersCard : Claim7 := { stood := { row := realmOwnersRow, standIns := [], harness := (true, "1335420d7d891a44bba6c38de108bf9718419bbf0bc013c3cbfd7cda2956bc14"), looks := false }, kinds := [], alts := [], laidByText := true, laidKinds := [.data, .pinned], laidTests := true, laidLooks := .later }
def RealmOwnersCardSaid : Prop := Claim7.holds Tryz.pinned (.plain (OpenSpec.ofChange realmOwnersSpec)) realmOwnersCard

/-- THE TIED CARD OF 'consistorylaw14.BatchBack'. -/
def batchBackCard : Claim7 := { stood := { row := batchBackRow, standIns := [], harness := (true, "1335420d7d891a44bba6c38de108bf9718419bbf0bc013c3cbfd7cda2956bc14"), looks := false }, kinds := [], alts := [], laidByText := true, laidKinds := [.data, .pinned], laidTests := true, laidLooks := .later }
def BatchBackCardSaid : Prop := Claim7.holds Tryz.pinned (.plain (OpenSpec.ofChange batchBackSpec)) batchBackCard

/-- THE TIED CARD OF 'consistorylaw14.BatchOnce'. -/
def batchOnceCard : Claim7 := { stood := { row := batchOnceRow, standIns := [], harness := (true, "1335420d7d891a44bba6c38de108bf9718419bbf0bc013c3cbfd7cda2956bc14"), looks := false }, kinds := [], alts := [], laidByText := true, laidKinds := [.data, .pinned], laidTests := true, laidLooks := .later }
def BatchOnceCardSaid : Prop := Claim7.holds Tryz.pinned (.plain (OpenSpec.ofChange batchOnceSpec)) batchOnceCard

/-- THE TIED CARD OF 'consistorylaw14.BatchTells'. -/
def batchTellsCard : Claim7 := { stood := { row := batchTellsRow, standIns := [], harness := (true, "1335420d7d891a44bba6c38de108bf9718419bbf0bc013c3cbfd7cda2956bc14"), looks := false }, kinds := [], alts := [], laidByText := true, laidKinds := [.data, .pinned], laidTests := true, laidLooks := .later }
def BatchTellsCardSaid : Prop := Claim7.holds Tryz.pinned (.plain (OpenSpec.ofChange batchTellsSpec)) batchTellsCard

/-- THE TIED CARD OF 'consistorylaw14.BatchWaits'. -/
def batchWaitsCard : Claim7 := { stood := { row := batchWaitsRow, standIns := [], harness := (true, "1335420d7d891a44bba6c38de108bf9718419bbf0bc013c3cbfd7cda2956bc14"), looks := false }, kinds := [], alts := [], laidByText := true, laidKinds := [.data, .pinned], laidTests := true, laidLooks := .later }
def BatchWaitsCardSaid : Prop := Claim7.holds Tryz.pinned (.plain (OpenSpec.ofChange batchWaitsSpec)) batchWaitsCard

/-- THE SECOND FORM's CARD OF 'consistorylaw13.RealmApplies'. -/
def realmAppliesUptoCard : Claim7 := { stood := { row := realmAppliesUptoRow, standIns := [], harness := (true, "1335420d7d891a44bba6c38de108bf9718419bbf0bc013c3cbfd7cda2956bc14"), looks := false }, kinds := [], alts := [], laidByText := true, laidKinds := [.data, .pinned], laidTests := true, laidLooks := .later }
def RealmAppliesUptoCardSaid : Prop := Claim7.holds Tryz.pinned (.plain (OpenSpec.upto realmAppliesSpec)) realmAppliesUptoCard

/-- THE SECOND FORM's CARD OF 'consistorylaw13.RealmEvents'. -/
def realmEventsUptoCard : Claim7 := { stood := { row := realmEventsUptoRow, standIns := [], harness := (true, "1335420d7d891a44bba6c38de108bf9718419bbf0bc013c3cbfd7cda2956bc14"), looks := false }, kinds := [], alts := [], laidByText := true, laidKinds := [.data, .pinned], laidTests := true, laidLooks := .later }
def RealmEventsUptoCardSaid : Prop := Claim7.holds Tryz.pinned (.plain (OpenSpec.upto realmEventsSpec)) realmEventsUptoCard

/-- THE SECOND FORM's CARD OF 'consistorylaw13.RealmFolds'. -/
def realmFoldsUptoCard : Claim7 := { stood := { row := realmFoldsUptoRow, standIns := [], harness := (true, "1335420d7d891a44bba6c38de108bf9718419bbf0bc013c3cbfd7cda2956bc14"), looks := false }, kinds := [], alts := [], laidByText := true, laidKinds := [.data, .pinned], laidTests := true, laidLooks := .later }
def RealmFoldsUptoCardSaid : Prop := Claim7.holds Tryz.pinned (.plain (OpenSpec.upto realmFoldsSpec)) realmFoldsUptoCard

/-- THE SECOND FORM's CARD OF 'consistorylaw13.RealmOnce'. -/
def realmOnceUptoCard : Claim7 := { stood := { row := realmOnceUptoRow, standIns := [], harness := (true, "1335420d7d891a44bba6c38de108bf9718419bbf0bc013c3cbfd7cda2956bc14"), looks := false }, kinds := [], alts := [], laidByText := true, laidKinds := [.data, .pinned], laidTests := true, laidLooks := .later }
def RealmOnceUptoCardSaid : Prop := Claim7.holds Tryz.pinned (.plain (OpenSpec.upto realmOnceSpec)) realmOnceUptoCard

/-- THE SECOND FORM's CARD OF 'consistorylaw13.RealmReads'. -/
def realmReadsUptoCard : Claim7 := { stood := { row := realmReadsUptoRow, standIns := [], harness := (true, "1335420d7d891a44bba6c38de108bf9718419bbf0bc013c3cbfd7cda2956bc14"), looks := false }, kinds := [], alts := [], laidByText := true, laidKinds := [.data, .pinned], laidTests := true, laidLooks := .later }
def RealmReadsUptoCardSaid : Prop := Claim7.holds Tryz.pinned (.plain (OpenSpec.upto realmReadsSpec)) realmReadsUptoCard

/-- THE SECOND FORM's CARD OF 'consistorylaw13.RealmOwners'. -/
def realmOwnersUptoCard : Claim7 := { stood := { row := realmOwnersUptoRow, standIns := [], harness := (true, "1335420d7d891a44bba6c38de108bf9718419bbf0bc013c3cbfd7cda2956bc14"), looks := false }, kinds := [], alts := [], laidByText := true, laidKinds := [.data, .pinned], laidTests := true, laidLooks := .later }
def RealmOwnersUptoCardSaid : Prop := Claim7.holds Tryz.pinned (.plain (OpenSpec.upto realmOwnersSpec)) realmOwnersUptoCard

/-- THE SECOND FORM's CARD OF 'consistorylaw14.BatchBack'. -/
def batchBackUptoCard : Claim7 := { stood := { row := batchBackUptoRow, standIns := [], harness := (true, "1335420d7d891a44bba6c38de108bf9718419bbf0bc013c3cbfd7cda2956bc14"), looks := false }, kinds := [], alts := [], laidByText := true, laidKinds := [.data, .pinned], laidTests := true, laidLooks := .later }
def BatchBackUptoCardSaid : Prop := Claim7.holds Tryz.pinned (.plain (OpenSpec.upto batchBackSpec)) batchBackUptoCard

/-- THE SECOND FORM's CARD OF 'consistorylaw14.BatchOnce'. -/
def batchOnceUptoCard : Claim7 := { stood := { row := batchOnceUptoRow, standIns := [], harness := (true, "1335420d7d891a44bba6c38de108bf9718419bbf0bc013c3cbfd7cda2956bc14"), looks := false }, kinds := [], alts := [], laidByText := true, laidKinds := [.data, .pinned], laidTests := true, laidLooks := .later }
def BatchOnceUptoCardSaid : Prop := Claim7.holds Tryz.pinned (.plain (OpenSpec.upto batchOnceSpec)) batchOnceUptoCard

/-- THE SECOND FORM's CARD OF 'consistorylaw14.BatchTells'. -/
def batchTellsUptoCard : Claim7 := { stood := { row := batchTellsUptoRow, standIns := [], harness := (true, "1335420d7d891a44bba6c38de108bf9718419bbf0bc013c3cbfd7cda2956bc14"), looks := false }, kinds := [], alts := [], laidByText := true, laidKinds := [.data, .pinned], laidTests := true, laidLooks := .later }
def BatchTellsUptoCardSaid : Prop := Claim7.holds Tryz.pinned (.plain (OpenSpec.upto batchTellsSpec)) batchTellsUptoCard

/-- THE SECOND FORM's CARD OF 'consistorylaw14.BatchWaits'. -/
def batchWaitsUptoCard : Claim7 := { stood := { row := batchWaitsUptoRow, standIns := [], harness := (true, "1335420d7d891a44bba6c38de108bf9718419bbf0bc013c3cbfd7cda2956bc14"), looks := false }, kinds := [], alts := [], laidByText := true, laidKinds := [.data, .pinned], laidTests := true, laidLooks := .later }
def BatchWaitsUptoCardSaid : Prop := Claim7.holds Tryz.pinned (.plain (OpenSpec.upto batchWaitsSpec)) batchWaitsUptoCard
end Rows
end Go.Proofs.YtbkodohojpchjaaGreatDoor
