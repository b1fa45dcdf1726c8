/-
  NARROWER THAN 'FOR EVERY INPUT', by the rows' own cells (each row's printed sentence says how): RealmApplies: laid · RealmEvents: laid · RealmFolds: laid · RealmOnce: laid · RealmReads: laid · RealmOwners: laid · BatchBack: laid · BatchOnce: laid · BatchTells: laid · BatchWaits: laid.
  DERIVED. THE GIVEN ROWS OF THIS SEAT. 10 by the template 'for every input the law returns true; each argument reads behind the call as it read before'; 0 by the template 'total and deterministic' (their statements: YtbkodohojpchjaaGreatDoorTotals.lean).
  GIVEN WITH THE SEED: the statements are not yours to turn. If you find one false, say at which input.
  Laid BY PROGRAM, IN A SANDBOX (cutbox-rows.mjs): the forced cells as the released guide's own fill.sh prints them over the translation acf03649ae95e916… (all of the seat's roots in one cut). By AI agents, Wed Nov 11 2026. No macro, syntax, notation, axiom, sorry.
-/
import Derived.Test.YtbkodohojpchjaaGreatDoorChecked
import GoSem.PinnedTables
import GoSem.Claim
import GoSem.ClaimJoined
import GoSem.ClaimMapViews
import Derived.JoinedTies
import Derived.KernelRfl
namespace Go.Proofs.YtbkodohojpchjaaGreatDoor
/- THE CELL 'sum', in the pinned program and in every row, IS THE sha256 OF THE DUMP (.gsa) THAT YtbkodohojpchjaaGreatDoorProg.lean LOADS. Nothing in Lean hashes anything: it is a label: what it is worth is what the hold of that sum in a sandbox is worth. -/
noncomputable def Tryz.pinned : Pinned := { name := "ytbkodohojpchjaagreatdoor", sum := "acf03649ae95e91674dbf4d8bf9aa9bd8a823d0126ce4d7309b6150a0eefdf7b", checked := Tryz.checked }
namespace Rows
def none {H : Type} : Left H := { results := [], args := [] }

/- WHAT THE LISTED PACKAGE-LEVEL VARIABLES READ AS WHEN THE CALL BEGINS. Each datum BY PROGRAM (the guide's laid-datum.mjs) off the statement by which the dump's own 'gosem.cut.vars' lays the variable. In a bare row this is a premise. The card (YtbkodohojpchjaaGreatDoorCards.lean) ties it to the program's text. -/
def laid_unicode_utf8_acceptRanges {H : Type} : DataW H := .agg [.agg [.lit (.int .u8 128), .lit (.int .u8 191)], .agg [.lit (.int .u8 160), .lit (.int .u8 191)], .agg [.lit (.int .u8 128), .lit (.int .u8 159)], .agg [.lit (.int .u8 144), .lit (.int .u8 191)], .agg [.lit (.int .u8 128), .lit (.int .u8 143)], .agg [.lit (.int .u8 0), .lit (.int .u8 0)], .agg [.lit (.int .u8 0), .lit (.int .u8 0)], .agg [.lit (.int .u8 0), .lit (.int .u8 0)], .agg [.lit (.int .u8 0), .lit (.int .u8 0)], .agg [.lit (.int .u8 0), .lit (.int .u8 0)], .agg [.lit (.int .u8 0), .lit (.int .u8 0)], .agg [.lit (.int .u8 0), .lit (.int .u8 0)], .agg [.lit (.int .u8 0), .lit (.int .u8 0)], .agg [.lit (.int .u8 0), .lit (.int .u8 0)], .agg [.lit (.int .u8 0), .lit (.int .u8 0)], .agg [.lit (.int .u8 0), .lit (.int .u8 0)]]
/-- One of Go's own tables, pinned by name: the form's constant. -/
def laid_unicode_utf8_first : DataW Unit := Go.Pinned.utf8First

/-- 'consistorylaw13.RealmApplies': WHATEVER THE INPUT: true; the input reads as it did. -/
def realmAppliesSpec : ChangeSpec := { name := "realmApplies", fn := fun _ => fun
  | [d1, d2] => { results := [.lit (.bool true)], args := [d1, d2] }
  | _ => none }
def realmAppliesRow : OpenClaim := { program := "ytbkodohojpchjaagreatdoor", sum := "acf03649ae95e91674dbf4d8bf9aa9bd8a823d0126ce4d7309b6150a0eefdf7b", func := "consistory/consistorylaw13.RealmApplies", spec := "realmApplies", inPlace := ["internal/bytealg.CountString", "internal/bytealg.IndexByteString", "internal/bytealg.IndexString", "slices.overlaps[consistory/shelf.Node]", "slices.overlaps[consistory/lease.Session]", "slices.overlaps[consistory/order.Reply]"], unfollowed := true, recurses := true, named := ["unicode/utf8.first", "unicode/utf8.acceptRanges", "internal/bytealg.MaxLen"], plainKeys := false, apart := false, laid := [("unicode/utf8.acceptRanges", laid_unicode_utf8_acceptRanges), ("unicode/utf8.first", laid_unicode_utf8_first)] }
def RealmAppliesSaid : Prop := realmAppliesRow.holds Tryz.pinned (OpenSpec.ofChange realmAppliesSpec)

/-- ITS FALSE NEIGHBOUR: 'it returns false'. Refute it at one input. -/
def realmAppliesWrong : ChangeSpec := { name := "realmApplies", fn := fun _ => fun
  | [d1, d2] => { results := [.lit (.bool false)], args := [d1, d2] }
  | _ => none }
def RealmAppliesWrongFalsely : Prop := realmAppliesRow.holds Tryz.pinned (OpenSpec.ofChange realmAppliesWrong)

/-- 'consistorylaw13.RealmEvents': WHATEVER THE INPUT: true; the input reads as it did. -/
def realmEventsSpec : ChangeSpec := { name := "realmEvents", fn := fun _ => fun
  | [d] => { results := [.lit (.bool true)], args := [d] }
  | _ => none }
def realmEventsRow : OpenClaim := { program := "ytbkodohojpchjaagreatdoor", sum := "acf03649ae95e91674dbf4d8bf9aa9bd8a823d0126ce4d7309b6150a0eefdf7b", func := "consistory/consistorylaw13.RealmEvents", spec := "realmEvents", inPlace := ["internal/bytealg.CountString", "internal/bytealg.IndexByteString", "internal/bytealg.IndexString", "slices.overlaps[consistory/shelf.Node]", "slices.overlaps[consistory/lease.Session]", "slices.overlaps[consistory/order.Reply]"], unfollowed := true, recurses := true, named := ["unicode/utf8.first", "unicode/utf8.acceptRanges", "internal/bytealg.MaxLen"], plainKeys := false, apart := false, laid := [("unicode/utf8.acceptRanges", laid_unicode_utf8_acceptRanges), ("unicode/utf8.first", laid_unicode_utf8_first)] }
def RealmEventsSaid : Prop := realmEventsRow.holds Tryz.pinned (OpenSpec.ofChange realmEventsSpec)

/-- ITS FALSE NEIGHBOUR: 'it returns false'. Refute it at one input. -/
def realmEventsWrong : ChangeSpec := { name := "realmEvents", fn := fun _ => fun
  | [d] => { results := [.lit (.bool false)], args := [d] }
  | _ => none }
def RealmEventsWrongFalsely : Prop := realmEventsRow.holds Tryz.pinned (OpenSpec.ofChange realmEventsWrong)

/-- 'consistorylaw13.RealmFolds': WHATEVER THE INPUT: true; the input reads as it did. -/
def realmFoldsSpec : ChangeSpec := { name := "realmFolds", fn := fun _ => fun
  | [d1, d2] => { results := [.lit (.bool true)], args := [d1, d2] }
  | _ => none }
def realmFoldsRow : OpenClaim := { program := "ytbkodohojpchjaagreatdoor", sum := "acf03649ae95e91674dbf4d8bf9aa9bd8a823d0126ce4d7309b6150a0eefdf7b", func := "consistory/consistorylaw13.RealmFolds", spec := "realmFolds", inPlace := ["internal/bytealg.CountString", "internal/bytealg.IndexByteString", "internal/bytealg.IndexString", "slices.overlaps[consistory/shelf.Node]", "slices.overlaps[consistory/lease.Session]", "slices.overlaps[consistory/order.Reply]"], unfollowed := true, recurses := true, named := ["unicode/utf8.first", "unicode/utf8.acceptRanges", "internal/bytealg.MaxLen"], plainKeys := false, apart := false, laid := [("unicode/utf8.acceptRanges", laid_unicode_utf8_acceptRanges), ("unicode/utf8.first", laid_unicode_utf8_first)] }
def RealmFoldsSaid : Prop := realmFoldsRow.holds Tryz.pinned (OpenSpec.ofChange realmFoldsSpec)

/-- ITS FALSE NEIGHBOUR: 'it returns false'. Refute it at one input. -/
def realmFoldsWrong : ChangeSpec := { name := "realmFolds", fn := fun _ => fun
  | [d1, d2] => { results := [.lit (.bool false)], args := [d1, d2] }
  | _ => none }
def RealmFoldsWrongFalsely : Prop := realmFoldsRow.holds Tryz.pinned (OpenSpec.ofChange realmFoldsWrong)

/-- 'consistorylaw13.RealmOnce': WHATEVER THE INPUT: true; the input reads as it did. -/
def realmOnceSpec : ChangeSpec := { name := "realmOnce", fn := fun _ => fun
  | [d1, d2, d3] => { results := [.lit (.bool true)], args := [d1, d2, d3] }
  | _ => none }
def realmOnceRow : OpenClaim := { program := "ytbkodohojpchjaagreatdoor", sum := "acf03649ae95e91674dbf4d8bf9aa9bd8a823d0126ce4d7309b6150a0eefdf7b", func := "consistory/consistorylaw13.RealmOnce", spec := "realmOnce", inPlace := ["internal/bytealg.CountString", "internal/bytealg.IndexByteString", "internal/bytealg.IndexString", "slices.overlaps[consistory/shelf.Node]", "slices.overlaps[consistory/lease.Session]", "slices.overlaps[consistory/order.Reply]"], unfollowed := true, recurses := true, named := ["unicode/utf8.first", "unicode/utf8.acceptRanges", "internal/bytealg.MaxLen"], plainKeys := false, apart := false, laid := [("unicode/utf8.acceptRanges", laid_unicode_utf8_acceptRanges), ("unicode/utf8.first", laid_unicode_utf8_first)] }
def RealmOnceSaid : Prop := realmOnceRow.holds Tryz.pinned (OpenSpec.ofChange realmOnceSpec)

/-- ITS FALSE NEIGHBOUR: 'it returns false'. Refute it at one input. -/
def realmOnceWrong : ChangeSpec := { name := "realmOnce", fn := fun _ => fun
  | [d1, d2, d3] => { results := [.lit (.bool false)], args := [d1, d2, d3] }
  | _ => none }
def RealmOnceWrongFalsely : Prop := realmOnceRow.holds Tryz.pinned (OpenSpec.ofChange realmOnceWrong)

/-- 'consistorylaw13.RealmReads': WHATEVER THE INPUT: true; the input reads as it did. -/
def realmReadsSpec : ChangeSpec := { name := "realmReads", fn := fun _ => fun
  | [d1, d2, d3] => { results := [.lit (.bool true)], args := [d1, d2, d3] }
  | _ => none }
def realmReadsRow : OpenClaim := { program := "ytbkodohojpchjaagreatdoor", sum := "acf03649ae95e91674dbf4d8bf9aa9bd8a823d0126ce4d7309b6150a0eefdf7b", func := "consistory/consistorylaw13.RealmReads", spec := "realmReads", inPlace := ["internal/bytealg.CountString", "internal/bytealg.IndexByteString", "internal/bytealg.IndexString", "slices.overlaps[consistory/shelf.Node]", "slices.overlaps[consistory/lease.Session]", "slices.overlaps[consistory/order.Reply]"], unfollowed := true, recurses := true, named := ["unicode/utf8.first", "unicode/utf8.acceptRanges", "internal/bytealg.MaxLen"], plainKeys := false, apart := false, laid := [("unicode/utf8.acceptRanges", laid_unicode_utf8_acceptRanges), ("unicode/utf8.first", laid_unicode_utf8_first)] }
def RealmReadsSaid : Prop := realmReadsRow.holds Tryz.pinned (OpenSpec.ofChange realmReadsSpec)

/-- ITS FALSE NEIGHBOUR: 'it returns false'. Refute it at one input. -/
def realmReadsWrong : ChangeSpec := { name := "realmReads", fn := fun _ => fun
  | [d1, d2, d3] => { results := [.lit (.bool false)], args := [d1, d2, d3] }
  | _ => none }
def RealmReadsWrongFalsely : Prop := realmReadsRow.holds Tryz.pinned (OpenSpec.ofChange realmReadsWrong)

/-- 'consistorylaw13.RealmOwners': WHATEVER THE INPUT: true; the input reads as it did. -/
def realmOwnersSpec : ChangeSpec := { name := "realmOwners", fn := fun _ => fun
  | [d] => { results := [.lit (.bool true)], args := [d] }
  | _ => none }
def realmOwnersRow : OpenClaim := { program := "ytbkodohojpchjaagreatdoor", sum := "acf03649ae95e91674dbf4d8bf9aa9bd8a823d0126ce4d7309b6150a0eefdf7b", func := "consistory/consistorylaw13.RealmOwners", spec := "realmOwners", inPlace := ["internal/bytealg.CountString", "internal/bytealg.IndexByteString", "internal/bytealg.IndexString", "slices.overlaps[consistory/shelf.Node]", "slices.overlaps[consistory/lease.Session]", "slices.overlaps[consistory/order.Reply]"], unfollowed := true, recurses := true, named := ["unicode/utf8.first", "unicode/utf8.acceptRanges", "internal/bytealg.MaxLen"], plainKeys := false, apart := false, laid := [("unicode/utf8.acceptRanges", laid_unicode_utf8_acceptRanges), ("unicode/utf8.first", laid_unicode_utf8_first)] }
def RealmOwnersSaid : Prop := realmOwnersRow.holds Tryz.pinned (OpenSpec.ofChange realmOwnersSpec)

/-- ITS FALSE NEIGHBOUR: 'it returns false'. Refute it at one input. -/
def realmOwnersWrong : ChangeSpec := { name := "realmOwners", fn := fun _ => fun
  | [d] => { results := [.lit (.bool false)], args := [d] }
  | _ => none }
def RealmOwnersWrongFalsely : Prop := realmOwnersRow.holds Tryz.pinned (OpenSpec.ofChange realmOwnersWrong)

/-- 'consistorylaw14.BatchBack': WHATEVER THE INPUT: true; the input reads as it did. -/
def batchBackSpec : ChangeSpec := { name := "batchBack", fn := fun _ => fun
  | [d1, d2] => { results := [.lit (.bool true)], args := [d1, d2] }
  | _ => none }
def batchBackRow : OpenClaim := { program := "ytbkodohojpchjaagreatdoor", sum := "acf03649ae95e91674dbf4d8bf9aa9bd8a823d0126ce4d7309b6150a0eefdf7b", func := "consistory/consistorylaw14.BatchBack", spec := "batchBack", inPlace := ["internal/bytealg.CountString", "internal/bytealg.IndexByteString", "internal/bytealg.IndexString", "slices.overlaps[consistory/shelf.Node]", "slices.overlaps[consistory/lease.Session]", "slices.overlaps[consistory/order.Reply]"], unfollowed := true, recurses := true, named := ["unicode/utf8.first", "unicode/utf8.acceptRanges", "internal/bytealg.MaxLen"], plainKeys := false, apart := false, laid := [("unicode/utf8.acceptRanges", laid_unicode_utf8_acceptRanges), ("unicode/utf8.first", laid_unicode_utf8_first)] }
def BatchBackSaid : Prop := batchBackRow.holds Tryz.pinned (OpenSpec.ofChange batchBackSpec)

/-- ITS FALSE NEIGHBOUR: 'it returns false'. Refute it at one input. -/
def batchBackWrong : ChangeSpec := { name := "batchBack", fn := fun _ => fun
  | [d1, d2] => { results := [.lit (.bool false)], args := [d1, d2] }
  | _ => none }
def BatchBackWrongFalsely : Prop := batchBackRow.holds Tryz.pinned (OpenSpec.ofChange batchBackWrong)

/-- 'consistorylaw14.BatchOnce': WHATEVER THE INPUT: true; the input reads as it did. -/
def batchOnceSpec : ChangeSpec := { name := "batchOnce", fn := fun _ => fun
  | [d1, d2] => { results := [.lit (.bool true)], args := [d1, d2] }
  | _ => none }
def batchOnceRow : OpenClaim := { program := "ytbkodohojpchjaagreatdoor", sum := "acf03649ae95e91674dbf4d8bf9aa9bd8a823d0126ce4d7309b6150a0eefdf7b", func := "consistory/consistorylaw14.BatchOnce", spec := "batchOnce", inPlace := ["internal/bytealg.CountString", "internal/bytealg.IndexByteString", "internal/bytealg.IndexString", "slices.overlaps[consistory/shelf.Node]", "slices.overlaps[consistory/lease.Session]", "slices.overlaps[consistory/order.Reply]"], unfollowed := true, recurses := true, named := ["unicode/utf8.first", "unicode/utf8.acceptRanges", "internal/bytealg.MaxLen"], plainKeys := false, apart := false, laid := [("unicode/utf8.acceptRanges", laid_unicode_utf8_acceptRanges), ("unicode/utf8.first", laid_unicode_utf8_first)] }
def BatchOnceSaid : Prop := batchOnceRow.holds Tryz.pinned (OpenSpec.ofChange batchOnceSpec)

/-- ITS FALSE NEIGHBOUR: 'it returns false'. Refute it at one input. -/
def batchOnceWrong : ChangeSpec := { name := "batchOnce", fn := fun _ => fun
  | [d1, d2] => { results := [.lit (.bool false)], args := [d1, d2] }
  | _ => none }
def BatchOnceWrongFalsely : Prop := batchOnceRow.holds Tryz.pinned (OpenSpec.ofChange batchOnceWrong)

/-- 'consistorylaw14.BatchTells': WHATEVER THE INPUT: true; the input reads as it did. -/
def batchTellsSpec : ChangeSpec := { name := "batchTells", fn := fun _ => fun
  | [d1, d2] => { results := [.lit (.bool true)], args := [d1, d2] }
  | _ => none }
def batchTellsRow : OpenClaim := { program := "ytbkodohojpchjaagreatdoor", sum := "acf03649ae95e91674dbf4d8bf9aa9bd8a823d0126ce4d7309b6150a0eefdf7b", func := "consistory/consistorylaw14.BatchTells", spec := "batchTells", inPlace := ["internal/bytealg.CountString", "internal/bytealg.IndexByteString", "internal/bytealg.IndexString", "slices.overlaps[consistory/shelf.Node]", "slices.overlaps[consistory/lease.Session]", "slices.overlaps[consistory/order.Reply]"], unfollowed := true, recurses := true, named := ["unicode/utf8.first", "unicode/utf8.acceptRanges", "internal/bytealg.MaxLen"], plainKeys := false, apart := false, laid := [("unicode/utf8.acceptRanges", laid_unicode_utf8_acceptRanges), ("unicode/utf8.first", laid_unicode_utf8_first)] }
def BatchTellsSaid : Prop := batchTellsRow.holds Tryz.pinned (OpenSpec.ofChange batchTellsSpec)

/-- ITS FALSE NEIGHBOUR: 'it returns false'. Refute it at one input. -/
def batchTellsWrong : ChangeSpec := { name := "batchTells", fn := fun _ => fun
  | [d1, d2] => { results := [.lit (.bool false)], args := [d1, d2] }
  | _ => none }
def BatchTellsWrongFalsely : Prop := batchTellsRow.holds Tryz.pinned (OpenSpec.ofChange batchTellsWrong)

/-- 'consistorylaw14.BatchWaits': WHATEVER THE INPUT: true; the input reads as it did. -/
def batchWaitsSpec : ChangeSpec := { name := "batchWaits", fn := fun _ => fun
  | [d1, d2, d3] => { results := [.lit (.bool true)], args := [d1, d2, d3] }
  | _ => none }
def batchWaitsRow : OpenClaim := { program := "ytbkodohojpchjaagreatdoor", sum := "acf03649ae95e91674dbf4d8bf9aa9bd8a823d0126ce4d7309b6150a0eefdf7b", func := "consistory/consistorylaw14.BatchWaits", spec := "batchWaits", inPlace := ["internal/bytealg.CountString", "internal/bytealg.IndexByteString", "internal/bytealg.IndexString", "slices.overlaps[consistory/shelf.Node]", "slices.overlaps[consistory/lease.Session]", "slices.overlaps[consistory/order.Reply]"], unfollowed := true, recurses := true, named := ["unicode/utf8.first", "unicode/utf8.acceptRanges", "internal/bytealg.MaxLen"], plainKeys := false, apart := false, laid := [("unicode/utf8.acceptRanges", laid_unicode_utf8_acceptRanges), ("unicode/utf8.first", laid_unicode_utf8_first)] }
def BatchWaitsSaid : Prop := batchWaitsRow.holds Tryz.pinned (OpenSpec.ofChange batchWaitsSpec)

/-- ITS FALSE NEIGHBOUR: 'it returns false'. Refute it at one input. -/
def batchWaitsWrong : ChangeSpec := { name := "batchWaits", fn := fun _ => fun
  | [d1, d2, d3] => { results := [.lit (.bool false)], args := [d1, d2, d3] }
  | _ => none }
def BatchWaitsWrongFalsely : Prop := batchWaitsRow.holds Tryz.pinned (OpenSpec.ofChange batchWaitsWrong)

/- THE SECOND FORM. 'bulk': how many values and letters a reading holds, each counted each time it is reached (what is shared counts as often as it is met; a slice's spare places count too). A statement '..UptoSaid' is the law's where the arguments, and the package variables that the reading takes, are together of bulk at most 1048576: NARROWER than '..Said'. Prove '..Said' where nothing that the law and all that it calls make is longer than what came in: it says more and counts as full. Else prove '..UptoSaid'. A law counts once. -/
mutual
def uptoBulk {H : Type} : DataW H → Nat
  | .lit (.string bytes) => bytes.length + 1
  | .lit _ => 1
  | .nil => 1
  | .ptr d => uptoBulk d + 1
  | .slice elems spare => uptoBulkAll elems + uptoBulkAll spare + 1
  | .agg parts => uptoBulkAll parts + 1
  | .iface _ d => uptoBulk d + 1
  | .map entries => uptoBulkEntries entries + 1
  | .held _ => 1
def uptoBulkAll {H : Type} : List (DataW H) → Nat
  | [] => 0
  | d :: r => uptoBulk d + uptoBulkAll r
def uptoBulkEntries {H : Type} : List (Lit × DataW H) → Nat
  | [] => 0
  | x :: r => uptoBulkEntry x + uptoBulkEntries r
def uptoBulkEntry {H : Type} : Lit × DataW H → Nat
  | (.string bytes, d) => bytes.length + uptoBulk d + 1
  | (_, d) => uptoBulk d + 1
 end
def uptoSmall : (H : Type) → List (DataW H) → Bool := fun _ ds => decide (uptoBulkAll ds ≤ 1048576)
def OpenSpec.upto (s : _root_.Go.ChangeSpec) : _root_.Go.OpenSpec := { _root_.Go.OpenSpec.ofChange s with cond := some uptoSmall }

/-- 'consistorylaw13.RealmApplies', WHERE WHAT IT READS IS OF BULK AT MOST 1048576: true; the input reads as it did. -/
def realmAppliesUptoRow : OpenClaim := { program := "ytbkodohojpchjaagreatdoor", sum := "acf03649ae95e91674dbf4d8bf9aa9bd8a823d0126ce4d7309b6150a0eefdf7b", func := "consistory/consistorylaw13.RealmApplies", spec := "realmApplies", inPlace := ["internal/bytealg.CountString", "internal/bytealg.IndexByteString", "internal/bytealg.IndexString", "slices.overlaps[consistory/shelf.Node]", "slices.overlaps[consistory/lease.Session]", "slices.overlaps[consistory/order.Reply]"], unfollowed := true, recurses := true, named := ["unicode/utf8.first", "unicode/utf8.acceptRanges", "internal/bytealg.MaxLen"], plainKeys := false, apart := false, laid := [("unicode/utf8.acceptRanges", laid_unicode_utf8_acceptRanges), ("unicode/utf8.first", laid_unicode_utf8_first)], narrowed := true }
def RealmAppliesUptoSaid : Prop := realmAppliesUptoRow.holds Tryz.pinned (OpenSpec.upto realmAppliesSpec)

/-- 'consistorylaw13.RealmEvents', WHERE WHAT IT READS IS OF BULK AT MOST 1048576: true; the input reads as it did. -/
def realmEventsUptoRow : OpenClaim := { program := "ytbkodohojpchjaagreatdoor", sum := "acf03649ae95e91674dbf4d8bf9aa9bd8a823d0126ce4d7309b6150a0eefdf7b", func := "consistory/consistorylaw13.RealmEvents", spec := "realmEvents", inPlace := ["internal/bytealg.CountString", "internal/bytealg.IndexByteString", "internal/bytealg.IndexString", "slices.overlaps[consistory/shelf.Node]", "slices.overlaps[consistory/lease.Session]", "slices.overlaps[consistory/order.Reply]"], unfollowed := true, recurses := true, named := ["unicode/utf8.first", "unicode/utf8.acceptRanges", "internal/bytealg.MaxLen"], plainKeys := false, apart := false, laid := [("unicode/utf8.acceptRanges", laid_unicode_utf8_acceptRanges), ("unicode/utf8.first", laid_unicode_utf8_first)], narrowed := true }
def RealmEventsUptoSaid : Prop := realmEventsUptoRow.holds Tryz.pinned (OpenSpec.upto realmEventsSpec)

/-- 'consistorylaw13.RealmFolds', WHERE WHAT IT READS IS OF BULK AT MOST 1048576: true; the input reads as it did. -/
def realmFoldsUptoRow : OpenClaim := { program := "ytbkodohojpchjaagreatdoor", sum := "acf03649ae95e91674dbf4d8bf9aa9bd8a823d0126ce4d7309b6150a0eefdf7b", func := "consistory/consistorylaw13.RealmFolds", spec := "realmFolds", inPlace := ["internal/bytealg.CountString", "internal/bytealg.IndexByteString", "internal/bytealg.IndexString", "slices.overlaps[consistory/shelf.Node]", "slices.overlaps[consistory/lease.Session]", "slices.overlaps[consistory/order.Reply]"], unfollowed := true, recurses := true, named := ["unicode/utf8.first", "unicode/utf8.acceptRanges", "internal/bytealg.MaxLen"], plainKeys := false, apart := false, laid := [("unicode/utf8.acceptRanges", laid_unicode_utf8_acceptRanges), ("unicode/utf8.first", laid_unicode_utf8_first)], narrowed := true }
def RealmFoldsUptoSaid : Prop := realmFoldsUptoRow.holds Tryz.pinned (OpenSpec.upto realmFoldsSpec)

/-- 'consistorylaw13.RealmOnce', WHERE WHAT IT READS IS OF BULK AT MOST 1048576: true; the input reads as it did. -/
def realmOnceUptoRow : OpenClaim := { program := "ytbkodohojpchjaagreatdoor", sum := "acf03649ae95e91674dbf4d8bf9aa9bd8a823d0126ce4d7309b6150a0eefdf7b", func := "consistory/consistorylaw13.RealmOnce", spec := "realmOnce", inPlace := ["internal/bytealg.CountString", "internal/bytealg.IndexByteString", "internal/bytealg.IndexString", "slices.overlaps[consistory/shelf.Node]", "slices.overlaps[consistory/lease.Session]", "slices.overlaps[consistory/order.Reply]"], unfollowed := true, recurses := true, named := ["unicode/utf8.first", "unicode/utf8.acceptRanges", "internal/bytealg.MaxLen"], plainKeys := false, apart := false, laid := [("unicode/utf8.acceptRanges", laid_unicode_utf8_acceptRanges), ("unicode/utf8.first", laid_unicode_utf8_first)], narrowed := true }
def RealmOnceUptoSaid : Prop := realmOnceUptoRow.holds Tryz.pinned (OpenSpec.upto realmOnceSpec)

/-- 'consistorylaw13.RealmReads', WHERE WHAT IT READS IS OF BULK AT MOST 1048576: true; the input reads as it did. -/
def realmReadsUptoRow : OpenClaim := { program := "ytbkodohojpchjaagreatdoor", sum := "acf03649ae95e91674dbf4d8bf9aa9bd8a823d0126ce4d7309b6150a0eefdf7b", func := "consistory/consistorylaw13.RealmReads", spec := "realmReads", inPlace := ["internal/bytealg.CountString", "internal/bytealg.IndexByteString", "internal/bytealg.IndexString", "slices.overlaps[consistory/shelf.Node]", "slices.overlaps[consistory/lease.Session]", "slices.overlaps[consistory/order.Reply]"], unfollowed := true, recurses := true, named := ["unicode/utf8.first", "unicode/utf8.acceptRanges", "internal/bytealg.MaxLen"], plainKeys := false, apart := false, laid := [("unicode/utf8.acceptRanges", laid_unicode_utf8_acceptRanges), ("unicode/utf8.first", laid_unicode_utf8_first)], narrowed := true }
def RealmReadsUptoSaid : Prop := realmReadsUptoRow.holds Tryz.pinned (OpenSpec.upto realmReadsSpec)

/-- 'consistorylaw13.RealmOwners', WHERE WHAT IT READS IS OF BULK AT MOST 1048576: true; the input reads as it did. -/
def realmOwnersUptoRow : OpenClaim := { program := "ytbkodohojpchjaagreatdoor", sum := "acf03649ae95e91674dbf4d8bf9aa9bd8a823d0126ce4d7309b6150a0eefdf7b", func := "consistory/consistorylaw13.RealmOwners", spec := "realmOwners", inPlace := ["internal/bytealg.CountString", "internal/bytealg.IndexByteString", "internal/bytealg.IndexString", "slices.overlaps[consistory/shelf.Node]", "slices.overlaps[consistory/lease.Session]", "slices.overlaps[consistory/order.Reply]"], unfollowed := true, recurses := true, named := ["unicode/utf8.first", "unicode/utf8.acceptRanges", "internal/bytealg.MaxLen"], plainKeys := false, apart := false, laid := [("unicode/utf8.acceptRanges", laid_unicode_utf8_acceptRanges), ("unicode/utf8.first", laid_unicode_utf8_first)], narrowed := true }
def RealmOwnersUptoSaid : Prop := realmOwnersUptoRow.holds Tryz.pinned (OpenSpec.upto realmOwnersSpec)

/-- 'consistorylaw14.BatchBack', WHERE WHAT IT READS IS OF BULK AT MOST 1048576: true; the input reads as it did. -/
def batchBackUptoRow : OpenClaim := { program := "ytbkodohojpchjaagreatdoor", sum := "acf03649ae95e91674dbf4d8bf9aa9bd8a823d0126ce4d7309b6150a0eefdf7b", func := "consistory/consistorylaw14.BatchBack", spec := "batchBack", inPlace := ["internal/bytealg.CountString", "internal/bytealg.IndexByteString", "internal/bytealg.IndexString", "slices.overlaps[consistory/shelf.Node]", "slices.overlaps[consistory/lease.Session]", "slices.overlaps[consistory/order.Reply]"], unfollowed := true, recurses := true, named := ["unicode/utf8.first", "unicode/utf8.acceptRanges", "internal/bytealg.MaxLen"], plainKeys := false, apart := false, laid := [("unicode/utf8.acceptRanges", laid_unicode_utf8_acceptRanges), ("unicode/utf8.first", laid_unicode_utf8_first)], narrowed := true }
def BatchBackUptoSaid : Prop := batchBackUptoRow.holds Tryz.pinned (OpenSpec.upto batchBackSpec)

/-- 'consistorylaw14.BatchOnce', WHERE WHAT IT READS IS OF BULK AT MOST 1048576: true; the input reads as it did. -/
def batchOnceUptoRow : OpenClaim := { program := "ytbkodohojpchjaagreatdoor", sum := "acf03649ae95e91674dbf4d8bf9aa9bd8a823d0126ce4d7309b6150a0eefdf7b", func := "consistory/consistorylaw14.BatchOnce", spec := "batchOnce", inPlace := ["internal/bytealg.CountString", "internal/bytealg.IndexByteString", "internal/bytealg.IndexString", "slices.overlaps[consistory/shelf.Node]", "slices.overlaps[consistory/lease.Session]", "slices.overlaps[consistory/order.Reply]"], unfollowed := true, recurses := true, named := ["unicode/utf8.first", "unicode/utf8.acceptRanges", "internal/bytealg.MaxLen"], plainKeys := false, apart := false, laid := [("unicode/utf8.acceptRanges", laid_unicode_utf8_acceptRanges), ("unicode/utf8.first", laid_unicode_utf8_first)], narrowed := true }
def BatchOnceUptoSaid : Prop := batchOnceUptoRow.holds Tryz.pinned (OpenSpec.upto batchOnceSpec)

/-- 'consistorylaw14.BatchTells', WHERE WHAT IT READS IS OF BULK AT MOST 1048576: true; the input reads as it did. -/
def batchTellsUptoRow : OpenClaim := { program := "ytbkodohojpchjaagreatdoor", sum := "acf03649ae95e91674dbf4d8bf9aa9bd8a823d0126ce4d7309b6150a0eefdf7b", func := "consistory/consistorylaw14.BatchTells", spec := "batchTells", inPlace := ["internal/bytealg.CountString", "internal/bytealg.IndexByteString", "internal/bytealg.IndexString", "slices.overlaps[consistory/shelf.Node]", "slices.overlaps[consistory/lease.Session]", "slices.overlaps[consistory/order.Reply]"], unfollowed := true, recurses := true, named := ["unicode/utf8.first", "unicode/utf8.acceptRanges", "internal/bytealg.MaxLen"], plainKeys := false, apart := false, laid := [("unicode/utf8.acceptRanges", laid_unicode_utf8_acceptRanges), ("unicode/utf8.first", laid_unicode_utf8_first)], narrowed := true }
def BatchTellsUptoSaid : Prop := batchTellsUptoRow.holds Tryz.pinned (OpenSpec.upto batchTellsSpec)

/-- 'consistorylaw14.BatchWaits', WHERE WHAT IT READS IS OF BULK AT MOST 1048576: true; the input reads as it did. -/
def batchWaitsUptoRow : OpenClaim := { program := "ytbkodohojpchjaagreatdoor", sum := "acf03649ae95e91674dbf4d8bf9aa9bd8a823d0126ce4d7309b6150a0eefdf7b", func := "consistory/consistorylaw14.BatchWaits", spec := "batchWaits", inPlace := ["internal/bytealg.CountString", "internal/bytealg.IndexByteString", "internal/bytealg.IndexString", "slices.overlaps[consistory/shelf.Node]", "slices.overlaps[consistory/lease.Session]", "slices.overlaps[consistory/order.Reply]"], unfollowed := true, recurses := true, named := ["unicode/utf8.first", "unicode/utf8.acceptRanges", "internal/bytealg.MaxLen"], plainKeys := false, apart := false, laid := [("unicode/utf8.acceptRanges", laid_unicode_utf8_acceptRanges), ("unicode/utf8.first", laid_unicode_utf8_first)], narrowed := true }
def BatchWaitsUptoSaid : Prop := batchWaitsUptoRow.holds Tryz.pinned (OpenSpec.upto batchWaitsSpec)

end Rows
end Go.Proofs.YtbkodohojpchjaaGreatDoor
