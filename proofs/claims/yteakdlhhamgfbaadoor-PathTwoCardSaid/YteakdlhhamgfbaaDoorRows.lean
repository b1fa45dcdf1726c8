/-
  NARROWER THAN 'FOR EVERY INPUT', by the rows' own cells (each row's printed sentence says how): PathTells: laid · PathOrder: laid · WatchOnce: laid · WatchTurns: laid · WatchCancels: laid · PathTwo: laid · WatchPieces: laid · PathJoins: laid · PathMade: laid · WatchMay: laid · ShelfMay: laid · ShelfAsks: laid · ShelfDrops: laid · ShelfKids: laid · ShelfJust: laid · ShelfChanges: laid.
  DERIVED. THE GIVEN ROWS OF THIS SEAT. 16 by the template 'for every input the law returns true; each argument reads behind the call as it read before'; 0 by the template 'total and deterministic' (their statements: YteakdlhhamgfbaaDoorTotals.lean).
  GIVEN WITH THE SEED: the statements are not yours to turn. If you find one false, say at which input.
  Laid BY PROGRAM, IN A SANDBOX (cutbox-rows.mjs): the forced cells as the released guide's own fill.sh prints them over the translation bd661e2365931f36… (all of the seat's roots in one cut). By AI agents, Wed Nov 11 2026. No macro, syntax, notation, axiom, sorry.
-/
import Derived.Test.YteakdlhhamgfbaaDoorChecked
import GoSem.PinnedTables
import GoSem.Claim
import GoSem.ClaimJoined
import GoSem.ClaimMapViews
import Derived.JoinedTies
import Derived.KernelRfl
namespace Go.Proofs.YteakdlhhamgfbaaDoor
/- THE CELL 'sum', in the pinned program and in every row, IS THE sha256 OF THE DUMP (.gsa) THAT YteakdlhhamgfbaaDoorProg.lean LOADS. Nothing in Lean hashes anything: it is a label: what it is worth is what the hold of that sum in a sandbox is worth. -/
noncomputable def Tryd.pinned : Pinned := { name := "yteakdlhhamgfbaadoor", sum := "bd661e2365931f363bc6245d8bf531d98eb789db6da25d599dba14edaf5c673b", checked := Tryd.checked }
namespace Rows
def none {H : Type} : Left H := { results := [], args := [] }

/- WHAT THE LISTED PACKAGE-LEVEL VARIABLES READ AS WHEN THE CALL BEGINS. Each datum BY PROGRAM (the guide's laid-datum.mjs) off the statement by which the dump's own 'gosem.cut.vars' lays the variable. In a bare row this is a premise. The card (YteakdlhhamgfbaaDoorCards.lean) ties it to the program's text. -/
def laid_unicode_utf8_acceptRanges {H : Type} : DataW H := .agg [.agg [.lit (.int .u8 128), .lit (.int .u8 191)], .agg [.lit (.int .u8 160), .lit (.int .u8 191)], .agg [.lit (.int .u8 128), .lit (.int .u8 159)], .agg [.lit (.int .u8 144), .lit (.int .u8 191)], .agg [.lit (.int .u8 128), .lit (.int .u8 143)], .agg [.lit (.int .u8 0), .lit (.int .u8 0)], .agg [.lit (.int .u8 0), .lit (.int .u8 0)], .agg [.lit (.int .u8 0), .lit (.int .u8 0)], .agg [.lit (.int .u8 0), .lit (.int .u8 0)], .agg [.lit (.int .u8 0), .lit (.int .u8 0)], .agg [.lit (.int .u8 0), .lit (.int .u8 0)], .agg [.lit (.int .u8 0), .lit (.int .u8 0)], .agg [.lit (.int .u8 0), .lit (.int .u8 0)], .agg [.lit (.int .u8 0), .lit (.int .u8 0)], .agg [.lit (.int .u8 0), .lit (.int .u8 0)], .agg [.lit (.int .u8 0), .lit (.int .u8 0)]]
/-- One of Go's own tables, pinned by name: the form's constant. -/
def laid_unicode_utf8_first : DataW Unit := Go.Pinned.utf8First

/-- 'consistorylaw08.PathTells': WHATEVER THE INPUT: true; the input reads as it did. -/
def pathTellsSpec : ChangeSpec := { name := "pathTells", fn := fun _ => fun
  | [d] => { results := [.lit (.bool true)], args := [d] }
  | _ => none }
def pathTellsRow : OpenClaim := { program := "yteakdlhhamgfbaadoor", sum := "bd661e2365931f363bc6245d8bf531d98eb789db6da25d599dba14edaf5c673b", func := "consistory/consistorylaw08.PathTells", spec := "pathTells", inPlace := ["internal/bytealg.CountString", "internal/bytealg.IndexByteString", "internal/bytealg.IndexString"], unfollowed := true, recurses := true, named := ["unicode/utf8.first", "unicode/utf8.acceptRanges", "internal/bytealg.MaxLen"], plainKeys := false, apart := false, laid := [("unicode/utf8.acceptRanges", laid_unicode_utf8_acceptRanges), ("unicode/utf8.first", laid_unicode_utf8_first)] }
def PathTellsSaid : Prop := pathTellsRow.holds Tryd.pinned (OpenSpec.ofChange pathTellsSpec)

/-- ITS FALSE NEIGHBOUR: 'it returns false'. Refute it at one input. -/
def pathTellsWrong : ChangeSpec := { name := "pathTells", fn := fun _ => fun
  | [d] => { results := [.lit (.bool false)], args := [d] }
  | _ => none }
def PathTellsWrongFalsely : Prop := pathTellsRow.holds Tryd.pinned (OpenSpec.ofChange pathTellsWrong)

/-- 'consistorylaw08.PathOrder': WHATEVER THE INPUT: true; the input reads as it did. -/
def pathOrderSpec : ChangeSpec := { name := "pathOrder", fn := fun _ => fun
  | [d1, d2, d3] => { results := [.lit (.bool true)], args := [d1, d2, d3] }
  | _ => none }
def pathOrderRow : OpenClaim := { program := "yteakdlhhamgfbaadoor", sum := "bd661e2365931f363bc6245d8bf531d98eb789db6da25d599dba14edaf5c673b", func := "consistory/consistorylaw08.PathOrder", spec := "pathOrder", inPlace := ["internal/bytealg.CountString", "internal/bytealg.IndexByteString", "internal/bytealg.IndexString"], unfollowed := true, recurses := true, named := ["unicode/utf8.first", "unicode/utf8.acceptRanges", "internal/bytealg.MaxLen"], plainKeys := false, apart := false, laid := [("unicode/utf8.acceptRanges", laid_unicode_utf8_acceptRanges), ("unicode/utf8.first", laid_unicode_utf8_first)] }
def PathOrderSaid : Prop := pathOrderRow.holds Tryd.pinned (OpenSpec.ofChange pathOrderSpec)

/-- ITS FALSE NEIGHBOUR: 'it returns false'. Refute it at one input. -/
def pathOrderWrong : ChangeSpec := { name := "pathOrder", fn := fun _ => fun
  | [d1, d2, d3] => { results := [.lit (.bool false)], args := [d1, d2, d3] }
  | _ => none }
def PathOrderWrongFalsely : Prop := pathOrderRow.holds Tryd.pinned (OpenSpec.ofChange pathOrderWrong)

/-- 'consistorylaw11.WatchOnce': WHATEVER THE INPUT: true; the input reads as it did. -/
def watchOnceSpec : ChangeSpec := { name := "watchOnce", fn := fun _ => fun
  | [d1, d2] => { results := [.lit (.bool true)], args := [d1, d2] }
  | _ => none }
def watchOnceRow : OpenClaim := { program := "yteakdlhhamgfbaadoor", sum := "bd661e2365931f363bc6245d8bf531d98eb789db6da25d599dba14edaf5c673b", func := "consistory/consistorylaw11.WatchOnce", spec := "watchOnce", inPlace := ["internal/bytealg.CountString", "internal/bytealg.IndexByteString", "internal/bytealg.IndexString"], unfollowed := true, recurses := true, named := ["unicode/utf8.first", "unicode/utf8.acceptRanges", "internal/bytealg.MaxLen"], plainKeys := false, apart := false, laid := [("unicode/utf8.acceptRanges", laid_unicode_utf8_acceptRanges), ("unicode/utf8.first", laid_unicode_utf8_first)] }
def WatchOnceSaid : Prop := watchOnceRow.holds Tryd.pinned (OpenSpec.ofChange watchOnceSpec)

/-- ITS FALSE NEIGHBOUR: 'it returns false'. Refute it at one input. -/
def watchOnceWrong : ChangeSpec := { name := "watchOnce", fn := fun _ => fun
  | [d1, d2] => { results := [.lit (.bool false)], args := [d1, d2] }
  | _ => none }
def WatchOnceWrongFalsely : Prop := watchOnceRow.holds Tryd.pinned (OpenSpec.ofChange watchOnceWrong)

/-- 'consistorylaw11.WatchTurns': WHATEVER THE INPUT: true; the input reads as it did. -/
def watchTurnsSpec : ChangeSpec := { name := "watchTurns", fn := fun _ => fun
  | [d1, d2, d3] => { results := [.lit (.bool true)], args := [d1, d2, d3] }
  | _ => none }
def watchTurnsRow : OpenClaim := { program := "yteakdlhhamgfbaadoor", sum := "bd661e2365931f363bc6245d8bf531d98eb789db6da25d599dba14edaf5c673b", func := "consistory/consistorylaw11.WatchTurns", spec := "watchTurns", inPlace := ["internal/bytealg.CountString", "internal/bytealg.IndexByteString", "internal/bytealg.IndexString"], unfollowed := true, recurses := true, named := ["unicode/utf8.first", "unicode/utf8.acceptRanges", "internal/bytealg.MaxLen"], plainKeys := false, apart := false, laid := [("unicode/utf8.acceptRanges", laid_unicode_utf8_acceptRanges), ("unicode/utf8.first", laid_unicode_utf8_first)] }
def WatchTurnsSaid : Prop := watchTurnsRow.holds Tryd.pinned (OpenSpec.ofChange watchTurnsSpec)

/-- ITS FALSE NEIGHBOUR: 'it returns false'. Refute it at one input. -/
def watchTurnsWrong : ChangeSpec := { name := "watchTurns", fn := fun _ => fun
  | [d1, d2, d3] => { results := [.lit (.bool false)], args := [d1, d2, d3] }
  | _ => none }
def WatchTurnsWrongFalsely : Prop := watchTurnsRow.holds Tryd.pinned (OpenSpec.ofChange watchTurnsWrong)

/-- 'consistorylaw11.WatchCancels': WHATEVER THE INPUT: true; the input reads as it did. -/
def watchCancelsSpec : ChangeSpec := { name := "watchCancels", fn := fun _ => fun
  | [d1, d2, d3] => { results := [.lit (.bool true)], args := [d1, d2, d3] }
  | _ => none }
def watchCancelsRow : OpenClaim := { program := "yteakdlhhamgfbaadoor", sum := "bd661e2365931f363bc6245d8bf531d98eb789db6da25d599dba14edaf5c673b", func := "consistory/consistorylaw11.WatchCancels", spec := "watchCancels", inPlace := ["internal/bytealg.CountString", "internal/bytealg.IndexByteString", "internal/bytealg.IndexString"], unfollowed := true, recurses := true, named := ["unicode/utf8.first", "unicode/utf8.acceptRanges", "internal/bytealg.MaxLen"], plainKeys := false, apart := false, laid := [("unicode/utf8.acceptRanges", laid_unicode_utf8_acceptRanges), ("unicode/utf8.first", laid_unicode_utf8_first)] }
def WatchCancelsSaid : Prop := watchCancelsRow.holds Tryd.pinned (OpenSpec.ofChange watchCancelsSpec)

/-- ITS FALSE NEIGHBOUR: 'it returns false'. Refute it at one input. -/
def watchCancelsWrong : ChangeSpec := { name := "watchCancels", fn := fun _ => fun
  | [d1, d2, d3] => { results := [.lit (.bool false)], args := [d1, d2, d3] }
  | _ => none }
def WatchCancelsWrongFalsely : Prop := watchCancelsRow.holds Tryd.pinned (OpenSpec.ofChange watchCancelsWrong)

/-- 'consistorylaw08.PathTwo': WHATEVER THE INPUT: true; the input reads as it did. -/
def pathTwoSpec : ChangeSpec := { name := "pathTwo", fn := fun _ => fun
  | [d1, d2] => { results := [.lit (.bool true)], args := [d1, d2] }
  | _ => none }
def pathTwoRow : OpenClaim := { program := "yteakdlhhamgfbaadoor", sum := "bd661e2365931f363bc6245d8bf531d98eb789db6da25d599dba14edaf5c673b", func := "consistory/consistorylaw08.PathTwo", spec := "pathTwo", inPlace := ["internal/bytealg.CountString", "internal/bytealg.IndexByteString", "internal/bytealg.IndexString"], unfollowed := true, recurses := true, named := ["unicode/utf8.first", "unicode/utf8.acceptRanges", "internal/bytealg.MaxLen"], plainKeys := false, apart := false, laid := [("unicode/utf8.acceptRanges", laid_unicode_utf8_acceptRanges), ("unicode/utf8.first", laid_unicode_utf8_first)] }
def PathTwoSaid : Prop := pathTwoRow.holds Tryd.pinned (OpenSpec.ofChange pathTwoSpec)

/-- ITS FALSE NEIGHBOUR: 'it returns false'. Refute it at one input. -/
def pathTwoWrong : ChangeSpec := { name := "pathTwo", fn := fun _ => fun
  | [d1, d2] => { results := [.lit (.bool false)], args := [d1, d2] }
  | _ => none }
def PathTwoWrongFalsely : Prop := pathTwoRow.holds Tryd.pinned (OpenSpec.ofChange pathTwoWrong)

/-- 'consistorylaw11.WatchPieces': WHATEVER THE INPUT: true; the input reads as it did. -/
def watchPiecesSpec : ChangeSpec := { name := "watchPieces", fn := fun _ => fun
  | [d1, d2, d3] => { results := [.lit (.bool true)], args := [d1, d2, d3] }
  | _ => none }
def watchPiecesRow : OpenClaim := { program := "yteakdlhhamgfbaadoor", sum := "bd661e2365931f363bc6245d8bf531d98eb789db6da25d599dba14edaf5c673b", func := "consistory/consistorylaw11.WatchPieces", spec := "watchPieces", inPlace := ["internal/bytealg.CountString", "internal/bytealg.IndexByteString", "internal/bytealg.IndexString"], unfollowed := true, recurses := true, named := ["unicode/utf8.first", "unicode/utf8.acceptRanges", "internal/bytealg.MaxLen"], plainKeys := false, apart := false, laid := [("unicode/utf8.acceptRanges", laid_unicode_utf8_acceptRanges), ("unicode/utf8.first", laid_unicode_utf8_first)] }
def WatchPiecesSaid : Prop := watchPiecesRow.holds Tryd.pinned (OpenSpec.ofChange watchPiecesSpec)

/-- ITS FALSE NEIGHBOUR: 'it returns false'. Refute it at one input. -/
def watchPiecesWrong : ChangeSpec := { name := "watchPieces", fn := fun _ => fun
  | [d1, d2, d3] => { results := [.lit (.bool false)], args := [d1, d2, d3] }
  | _ => none }
def WatchPiecesWrongFalsely : Prop := watchPiecesRow.holds Tryd.pinned (OpenSpec.ofChange watchPiecesWrong)

/-- 'consistorylaw08.PathJoins': WHATEVER THE INPUT: true; the input reads as it did. -/
def pathJoinsSpec : ChangeSpec := { name := "pathJoins", fn := fun _ => fun
  | [d1, d2] => { results := [.lit (.bool true)], args := [d1, d2] }
  | _ => none }
def pathJoinsRow : OpenClaim := { program := "yteakdlhhamgfbaadoor", sum := "bd661e2365931f363bc6245d8bf531d98eb789db6da25d599dba14edaf5c673b", func := "consistory/consistorylaw08.PathJoins", spec := "pathJoins", inPlace := ["internal/bytealg.CountString", "internal/bytealg.IndexByteString", "internal/bytealg.IndexString"], unfollowed := true, recurses := true, named := ["unicode/utf8.first", "unicode/utf8.acceptRanges", "internal/bytealg.MaxLen"], plainKeys := false, apart := false, laid := [("unicode/utf8.acceptRanges", laid_unicode_utf8_acceptRanges), ("unicode/utf8.first", laid_unicode_utf8_first)] }
def PathJoinsSaid : Prop := pathJoinsRow.holds Tryd.pinned (OpenSpec.ofChange pathJoinsSpec)

/-- ITS FALSE NEIGHBOUR: 'it returns false'. Refute it at one input. -/
def pathJoinsWrong : ChangeSpec := { name := "pathJoins", fn := fun _ => fun
  | [d1, d2] => { results := [.lit (.bool false)], args := [d1, d2] }
  | _ => none }
def PathJoinsWrongFalsely : Prop := pathJoinsRow.holds Tryd.pinned (OpenSpec.ofChange pathJoinsWrong)

/-- 'consistorylaw08.PathMade': WHATEVER THE INPUT: true; the input reads as it did. -/
def pathMadeSpec : ChangeSpec := { name := "pathMade", fn := fun _ => fun
  | [d] => { results := [.lit (.bool true)], args := [d] }
  | _ => none }
def pathMadeRow : OpenClaim := { program := "yteakdlhhamgfbaadoor", sum := "bd661e2365931f363bc6245d8bf531d98eb789db6da25d599dba14edaf5c673b", func := "consistory/consistorylaw08.PathMade", spec := "pathMade", inPlace := ["internal/bytealg.CountString", "internal/bytealg.IndexByteString", "internal/bytealg.IndexString"], unfollowed := true, recurses := true, named := ["unicode/utf8.first", "unicode/utf8.acceptRanges", "internal/bytealg.MaxLen"], plainKeys := false, apart := false, laid := [("unicode/utf8.acceptRanges", laid_unicode_utf8_acceptRanges), ("unicode/utf8.first", laid_unicode_utf8_first)] }
def PathMadeSaid : Prop := pathMadeRow.holds Tryd.pinned (OpenSpec.ofChange pathMadeSpec)

/-- ITS FALSE NEIGHBOUR: 'it returns false'. Refute it at one input. -/
def pathMadeWrong : ChangeSpec := { name := "pathMade", fn := fun _ => fun
  | [d] => { results := [.lit (.bool false)], args := [d] }
  | _ => none }
def PathMadeWrongFalsely : Prop := pathMadeRow.holds Tryd.pinned (OpenSpec.ofChange pathMadeWrong)

/-- 'consistorylaw11.WatchMay': WHATEVER THE INPUT: true; the input reads as it did. -/
def watchMaySpec : ChangeSpec := { name := "watchMay", fn := fun _ => fun
  | [d1, d2, d3] => { results := [.lit (.bool true)], args := [d1, d2, d3] }
  | _ => none }
def watchMayRow : OpenClaim := { program := "yteakdlhhamgfbaadoor", sum := "bd661e2365931f363bc6245d8bf531d98eb789db6da25d599dba14edaf5c673b", func := "consistory/consistorylaw11.WatchMay", spec := "watchMay", inPlace := ["internal/bytealg.CountString", "internal/bytealg.IndexByteString", "internal/bytealg.IndexString"], unfollowed := true, recurses := true, named := ["unicode/utf8.first", "unicode/utf8.acceptRanges", "internal/bytealg.MaxLen"], plainKeys := false, apart := false, laid := [("unicode/utf8.acceptRanges", laid_unicode_utf8_acceptRanges), ("unicode/utf8.first", laid_unicode_utf8_first)] }
def WatchMaySaid : Prop := watchMayRow.holds Tryd.pinned (OpenSpec.ofChange watchMaySpec)

/-- ITS FALSE NEIGHBOUR: 'it returns false'. Refute it at one input. -/
def watchMayWrong : ChangeSpec := { name := "watchMay", fn := fun _ => fun
  | [d1, d2, d3] => { results := [.lit (.bool false)], args := [d1, d2, d3] }
  | _ => none }
def WatchMayWrongFalsely : Prop := watchMayRow.holds Tryd.pinned (OpenSpec.ofChange watchMayWrong)

/-- 'consistorylaw09.ShelfMay': WHATEVER THE INPUT: true; the input reads as it did. -/
def shelfMaySpec : ChangeSpec := { name := "shelfMay", fn := fun _ => fun
  | [d1, d2] => { results := [.lit (.bool true)], args := [d1, d2] }
  | _ => none }
def shelfMayRow : OpenClaim := { program := "yteakdlhhamgfbaadoor", sum := "bd661e2365931f363bc6245d8bf531d98eb789db6da25d599dba14edaf5c673b", func := "consistory/consistorylaw09.ShelfMay", spec := "shelfMay", inPlace := ["internal/bytealg.CountString", "internal/bytealg.IndexByteString", "internal/bytealg.IndexString", "slices.overlaps[consistory/shelf.Node]"], unfollowed := true, recurses := true, named := ["unicode/utf8.first", "unicode/utf8.acceptRanges", "internal/bytealg.MaxLen"], plainKeys := false, apart := false, laid := [("unicode/utf8.acceptRanges", laid_unicode_utf8_acceptRanges), ("unicode/utf8.first", laid_unicode_utf8_first)] }
def ShelfMaySaid : Prop := shelfMayRow.holds Tryd.pinned (OpenSpec.ofChange shelfMaySpec)

/-- ITS FALSE NEIGHBOUR: 'it returns false'. Refute it at one input. -/
def shelfMayWrong : ChangeSpec := { name := "shelfMay", fn := fun _ => fun
  | [d1, d2] => { results := [.lit (.bool false)], args := [d1, d2] }
  | _ => none }
def ShelfMayWrongFalsely : Prop := shelfMayRow.holds Tryd.pinned (OpenSpec.ofChange shelfMayWrong)

/-- 'consistorylaw09.ShelfAsks': WHATEVER THE INPUT: true; the input reads as it did. -/
def shelfAsksSpec : ChangeSpec := { name := "shelfAsks", fn := fun _ => fun
  | [d1, d2] => { results := [.lit (.bool true)], args := [d1, d2] }
  | _ => none }
def shelfAsksRow : OpenClaim := { program := "yteakdlhhamgfbaadoor", sum := "bd661e2365931f363bc6245d8bf531d98eb789db6da25d599dba14edaf5c673b", func := "consistory/consistorylaw09.ShelfAsks", spec := "shelfAsks", inPlace := ["internal/bytealg.CountString", "internal/bytealg.IndexByteString", "internal/bytealg.IndexString", "slices.overlaps[consistory/shelf.Node]"], unfollowed := true, recurses := true, named := ["unicode/utf8.first", "unicode/utf8.acceptRanges", "internal/bytealg.MaxLen"], plainKeys := false, apart := false, laid := [("unicode/utf8.acceptRanges", laid_unicode_utf8_acceptRanges), ("unicode/utf8.first", laid_unicode_utf8_first)] }
def ShelfAsksSaid : Prop := shelfAsksRow.holds Tryd.pinned (OpenSpec.ofChange shelfAsksSpec)

/-- ITS FALSE NEIGHBOUR: 'it returns false'. Refute it at one input. -/
def shelfAsksWrong : ChangeSpec := { name := "shelfAsks", fn := fun _ => fun
  | [d1, d2] => { results := [.lit (.bool false)], args := [d1, d2] }
  | _ => none }
def ShelfAsksWrongFalsely : Prop := shelfAsksRow.holds Tryd.pinned (OpenSpec.ofChange shelfAsksWrong)

/-- 'consistorylaw09.ShelfDrops': WHATEVER THE INPUT: true; the input reads as it did. -/
def shelfDropsSpec : ChangeSpec := { name := "shelfDrops", fn := fun _ => fun
  | [d1, d2] => { results := [.lit (.bool true)], args := [d1, d2] }
  | _ => none }
def shelfDropsRow : OpenClaim := { program := "yteakdlhhamgfbaadoor", sum := "bd661e2365931f363bc6245d8bf531d98eb789db6da25d599dba14edaf5c673b", func := "consistory/consistorylaw09.ShelfDrops", spec := "shelfDrops", inPlace := ["internal/bytealg.CountString", "internal/bytealg.IndexByteString", "internal/bytealg.IndexString", "slices.overlaps[consistory/shelf.Node]"], unfollowed := true, recurses := true, named := ["unicode/utf8.first", "unicode/utf8.acceptRanges", "internal/bytealg.MaxLen"], plainKeys := false, apart := false, laid := [("unicode/utf8.acceptRanges", laid_unicode_utf8_acceptRanges), ("unicode/utf8.first", laid_unicode_utf8_first)] }
def ShelfDropsSaid : Prop := shelfDropsRow.holds Tryd.pinned (OpenSpec.ofChange shelfDropsSpec)

/-- ITS FALSE NEIGHBOUR: 'it returns false'. Refute it at one input. -/
def shelfDropsWrong : ChangeSpec := { name := "shelfDrops", fn := fun _ => fun
  | [d1, d2] => { results := [.lit (.bool false)], args := [d1, d2] }
  | _ => none }
def ShelfDropsWrongFalsely : Prop := shelfDropsRow.holds Tryd.pinned (OpenSpec.ofChange shelfDropsWrong)

/-- 'consistorylaw09.ShelfKids': WHATEVER THE INPUT: true; the input reads as it did. -/
def shelfKidsSpec : ChangeSpec := { name := "shelfKids", fn := fun _ => fun
  | [d1, d2] => { results := [.lit (.bool true)], args := [d1, d2] }
  | _ => none }
def shelfKidsRow : OpenClaim := { program := "yteakdlhhamgfbaadoor", sum := "bd661e2365931f363bc6245d8bf531d98eb789db6da25d599dba14edaf5c673b", func := "consistory/consistorylaw09.ShelfKids", spec := "shelfKids", inPlace := ["internal/bytealg.CountString", "internal/bytealg.IndexByteString", "internal/bytealg.IndexString", "slices.overlaps[consistory/shelf.Node]"], unfollowed := true, recurses := true, named := ["unicode/utf8.first", "unicode/utf8.acceptRanges", "internal/bytealg.MaxLen"], plainKeys := false, apart := false, laid := [("unicode/utf8.acceptRanges", laid_unicode_utf8_acceptRanges), ("unicode/utf8.first", laid_unicode_utf8_first)] }
def ShelfKidsSaid : Prop := shelfKidsRow.holds Tryd.pinned (OpenSpec.ofChange shelfKidsSpec)

/-- ITS FALSE NEIGHBOUR: 'it returns false'. Refute it at one input. -/
def shelfKidsWrong : ChangeSpec := { name := "shelfKids", fn := fun _ => fun
  | [d1, d2] => { results := [.lit (.bool false)], args := [d1, d2] }
  | _ => none }
def ShelfKidsWrongFalsely : Prop := shelfKidsRow.holds Tryd.pinned (OpenSpec.ofChange shelfKidsWrong)

/-- 'consistorylaw09.ShelfJust': WHATEVER THE INPUT: true; the input reads as it did. -/
def shelfJustSpec : ChangeSpec := { name := "shelfJust", fn := fun _ => fun
  | [d1, d2, d3] => { results := [.lit (.bool true)], args := [d1, d2, d3] }
  | _ => none }
def shelfJustRow : OpenClaim := { program := "yteakdlhhamgfbaadoor", sum := "bd661e2365931f363bc6245d8bf531d98eb789db6da25d599dba14edaf5c673b", func := "consistory/consistorylaw09.ShelfJust", spec := "shelfJust", inPlace := ["internal/bytealg.CountString", "internal/bytealg.IndexByteString", "internal/bytealg.IndexString", "slices.overlaps[consistory/shelf.Node]"], unfollowed := true, recurses := true, named := ["unicode/utf8.first", "unicode/utf8.acceptRanges", "internal/bytealg.MaxLen"], plainKeys := false, apart := false, laid := [("unicode/utf8.acceptRanges", laid_unicode_utf8_acceptRanges), ("unicode/utf8.first", laid_unicode_utf8_first)] }
def ShelfJustSaid : Prop := shelfJustRow.holds Tryd.pinned (OpenSpec.ofChange shelfJustSpec)

/-- ITS FALSE NEIGHBOUR: 'it returns false'. Refute it at one input. -/
def shelfJustWrong : ChangeSpec := { name := "shelfJust", fn := fun _ => fun
  | [d1, d2, d3] => { results := [.lit (.bool false)], args := [d1, d2, d3] }
  | _ => none }
def ShelfJustWrongFalsely : Prop := shelfJustRow.holds Tryd.pinned (OpenSpec.ofChange shelfJustWrong)

/-- 'consistorylaw09.ShelfChanges': WHATEVER THE INPUT: true; the input reads as it did. -/
def shelfChangesSpec : ChangeSpec := { name := "shelfChanges", fn := fun _ => fun
  | [d1, d2] => { results := [.lit (.bool true)], args := [d1, d2] }
  | _ => none }
def shelfChangesRow : OpenClaim := { program := "yteakdlhhamgfbaadoor", sum := "bd661e2365931f363bc6245d8bf531d98eb789db6da25d599dba14edaf5c673b", func := "consistory/consistorylaw09.ShelfChanges", spec := "shelfChanges", inPlace := ["internal/bytealg.CountString", "internal/bytealg.IndexByteString", "internal/bytealg.IndexString", "slices.overlaps[consistory/shelf.Node]"], unfollowed := true, recurses := true, named := ["unicode/utf8.first", "unicode/utf8.acceptRanges", "internal/bytealg.MaxLen"], plainKeys := false, apart := false, laid := [("unicode/utf8.acceptRanges", laid_unicode_utf8_acceptRanges), ("unicode/utf8.first", laid_unicode_utf8_first)] }
def ShelfChangesSaid : Prop := shelfChangesRow.holds Tryd.pinned (OpenSpec.ofChange shelfChangesSpec)

/-- ITS FALSE NEIGHBOUR: 'it returns false'. Refute it at one input. -/
def shelfChangesWrong : ChangeSpec := { name := "shelfChanges", fn := fun _ => fun
  | [d1, d2] => { results := [.lit (.bool false)], args := [d1, d2] }
  | _ => none }
def ShelfChangesWrongFalsely : Prop := shelfChangesRow.holds Tryd.pinned (OpenSpec.ofChange shelfChangesWrong)

/- THE SECOND FORM. 'bulk': how many values and letters a reading holds, each counted each time it is reached (what is shared counts as often as it is met; a slice's spare places count too). A statement '..UptoSaid' is the law's where the arguments, and the package variables that the reading takes, are together of bulk at most 1048576: NARROWER than '..Said'. Prove '..Said' where nothing that the law and all that it calls make is longer than what came in: it says more and counts as full. Else prove '..UptoSaid'. A law counts once. -/
mutual
def uptoBulk {H : Type} : DataW H → Nat
  | .lit (.string bytes) => bytes.length + 1
  | .lit _ => 1
  | .nil => 1
  | .ptr d => uptoBulk d + 1
  | .slice elems spare => uptoBulkAll elems + uptoBulkAll spare + 1
  | .agg parts => uptoBulkAll parts + 1
  | .iface _ d => uptoBulk d + 1
  | .map entries => uptoBulkEntries entries + 1
  | .held _ => 1
def uptoBulkAll {H : Type} : List (DataW H) → Nat
  | [] => 0
  | d :: r => uptoBulk d + uptoBulkAll r
def uptoBulkEntries {H : Type} : List (Lit × DataW H) → Nat
  | [] => 0
  | x :: r => uptoBulkEntry x + uptoBulkEntries r
def uptoBulkEntry {H : Type} : Lit × DataW H → Nat
  | (.string bytes, d) => bytes.length + uptoBulk d + 1
  | (_, d) => uptoBulk d + 1
 end
def uptoSmall : (H : Type) → List (DataW H) → Bool := fun _ ds => decide (uptoBulkAll ds ≤ 1048576)
def OpenSpec.upto (s : _root_.Go.ChangeSpec) : _root_.Go.OpenSpec := { _root_.Go.OpenSpec.ofChange s with cond := some uptoSmall }

/-- 'consistorylaw08.PathTells', WHERE WHAT IT READS IS OF BULK AT MOST 1048576: true; the input reads as it did. -/
def pathTellsUptoRow : OpenClaim := { program := "yteakdlhhamgfbaadoor", sum := "bd661e2365931f363bc6245d8bf531d98eb789db6da25d599dba14edaf5c673b", func := "consistory/consistorylaw08.PathTells", spec := "pathTells", inPlace := ["internal/bytealg.CountString", "internal/bytealg.IndexByteString", "internal/bytealg.IndexString"], unfollowed := true, recurses := true, named := ["unicode/utf8.first", "unicode/utf8.acceptRanges", "internal/bytealg.MaxLen"], plainKeys := false, apart := false, laid := [("unicode/utf8.acceptRanges", laid_unicode_utf8_acceptRanges), ("unicode/utf8.first", laid_unicode_utf8_first)], narrowed := true }
def PathTellsUptoSaid : Prop := pathTellsUptoRow.holds Tryd.pinned (OpenSpec.upto pathTellsSpec)

/-- 'consistorylaw08.PathOrder', WHERE WHAT IT READS IS OF BULK AT MOST 1048576: true; the input reads as it did. -/
def pathOrderUptoRow : OpenClaim := { program := "yteakdlhhamgfbaadoor", sum := "bd661e2365931f363bc6245d8bf531d98eb789db6da25d599dba14edaf5c673b", func := "consistory/consistorylaw08.PathOrder", spec := "pathOrder", inPlace := ["internal/bytealg.CountString", "internal/bytealg.IndexByteString", "internal/bytealg.IndexString"], unfollowed := true, recurses := true, named := ["unicode/utf8.first", "unicode/utf8.acceptRanges", "internal/bytealg.MaxLen"], plainKeys := false, apart := false, laid := [("unicode/utf8.acceptRanges", laid_unicode_utf8_acceptRanges), ("unicode/utf8.first", laid_unicode_utf8_first)], narrowed := true }
def PathOrderUptoSaid : Prop := pathOrderUptoRow.holds Tryd.pinned (OpenSpec.upto pathOrderSpec)

/-- 'consistorylaw11.WatchOnce', WHERE WHAT IT READS IS OF BULK AT MOST 1048576: true; the input reads as it did. -/
def watchOnceUptoRow : OpenClaim := { program := "yteakdlhhamgfbaadoor", sum := "bd661e2365931f363bc6245d8bf531d98eb789db6da25d599dba14edaf5c673b", func := "consistory/consistorylaw11.WatchOnce", spec := "watchOnce", inPlace := ["internal/bytealg.CountString", "internal/bytealg.IndexByteString", "internal/bytealg.IndexString"], unfollowed := true, recurses := true, named := ["unicode/utf8.first", "unicode/utf8.acceptRanges", "internal/bytealg.MaxLen"], plainKeys := false, apart := false, laid := [("unicode/utf8.acceptRanges", laid_unicode_utf8_acceptRanges), ("unicode/utf8.first", laid_unicode_utf8_first)], narrowed := true }
def WatchOnceUptoSaid : Prop := watchOnceUptoRow.holds Tryd.pinned (OpenSpec.upto watchOnceSpec)

/-- 'consistorylaw11.WatchTurns', WHERE WHAT IT READS IS OF BULK AT MOST 1048576: true; the input reads as it did. -/
def watchTurnsUptoRow : OpenClaim := { program := "yteakdlhhamgfbaadoor", sum := "bd661e2365931f363bc6245d8bf531d98eb789db6da25d599dba14edaf5c673b", func := "consistory/consistorylaw11.WatchTurns", spec := "watchTurns", inPlace := ["internal/bytealg.CountString", "internal/bytealg.IndexByteString", "internal/bytealg.IndexString"], unfollowed := true, recurses := true, named := ["unicode/utf8.first", "unicode/utf8.acceptRanges", "internal/bytealg.MaxLen"], plainKeys := false, apart := false, laid := [("unicode/utf8.acceptRanges", laid_unicode_utf8_acceptRanges), ("unicode/utf8.first", laid_unicode_utf8_first)], narrowed := true }
def WatchTurnsUptoSaid : Prop := watchTurnsUptoRow.holds Tryd.pinned (OpenSpec.upto watchTurnsSpec)

/-- 'consistorylaw11.WatchCancels', WHERE WHAT IT READS IS OF BULK AT MOST 1048576: true; the input reads as it did. -/
def watchCancelsUptoRow : OpenClaim := { program := "yteakdlhhamgfbaadoor", sum := "bd661e2365931f363bc6245d8bf531d98eb789db6da25d599dba14edaf5c673b", func := "consistory/consistorylaw11.WatchCancels", spec := "watchCancels", inPlace := ["internal/bytealg.CountString", "internal/bytealg.IndexByteString", "internal/bytealg.IndexString"], unfollowed := true, recurses := true, named := ["unicode/utf8.first", "unicode/utf8.acceptRanges", "internal/bytealg.MaxLen"], plainKeys := false, apart := false, laid := [("unicode/utf8.acceptRanges", laid_unicode_utf8_acceptRanges), ("unicode/utf8.first", laid_unicode_utf8_first)], narrowed := true }
def WatchCancelsUptoSaid : Prop := watchCancelsUptoRow.holds Tryd.pinned (OpenSpec.upto watchCancelsSpec)

/-- 'consistorylaw08.PathTwo', WHERE WHAT IT READS IS OF BULK AT MOST 1048576: true; the input reads as it did. -/
def pathTwoUptoRow : OpenClaim := { program := "yteakdlhhamgfbaadoor", sum := "bd661e2365931f363bc6245d8bf531d98eb789db6da25d599dba14edaf5c673b", func := "consistory/consistorylaw08.PathTwo", spec := "pathTwo", inPlace := ["internal/bytealg.CountString", "internal/bytealg.IndexByteString", "internal/bytealg.IndexString"], unfollowed := true, recurses := true, named := ["unicode/utf8.first", "unicode/utf8.acceptRanges", "internal/bytealg.MaxLen"], plainKeys := false, apart := false, laid := [("unicode/utf8.acceptRanges", laid_unicode_utf8_acceptRanges), ("unicode/utf8.first", laid_unicode_utf8_first)], narrowed := true }
def PathTwoUptoSaid : Prop := pathTwoUptoRow.holds Tryd.pinned (OpenSpec.upto pathTwoSpec)

/-- 'consistorylaw11.WatchPieces', WHERE WHAT IT READS IS OF BULK AT MOST 1048576: true; the input reads as it did. -/
def watchPiecesUptoRow : OpenClaim := { program := "yteakdlhhamgfbaadoor", sum := "bd661e2365931f363bc6245d8bf531d98eb789db6da25d599dba14edaf5c673b", func := "consistory/consistorylaw11.WatchPieces", spec := "watchPieces", inPlace := ["internal/bytealg.CountString", "internal/bytealg.IndexByteString", "internal/bytealg.IndexString"], unfollowed := true, recurses := true, named := ["unicode/utf8.first", "unicode/utf8.acceptRanges", "internal/bytealg.MaxLen"], plainKeys := false, apart := false, laid := [("unicode/utf8.acceptRanges", laid_unicode_utf8_acceptRanges), ("unicode/utf8.first", laid_unicode_utf8_first)], narrowed := true }
def WatchPiecesUptoSaid : Prop := watchPiecesUptoRow.holds Tryd.pinned (OpenSpec.upto watchPiecesSpec)

/-- 'consistorylaw08.PathJoins', WHERE WHAT IT READS IS OF BULK AT MOST 1048576: true; the input reads as it did. -/
def pathJoinsUptoRow : OpenClaim := { program := "yteakdlhhamgfbaadoor", sum := "bd661e2365931f363bc6245d8bf531d98eb789db6da25d599dba14edaf5c673b", func := "consistory/consistorylaw08.PathJoins", spec := "pathJoins", inPlace := ["internal/bytealg.CountString", "internal/bytealg.IndexByteString", "internal/bytealg.IndexString"], unfollowed := true, recurses := true, named := ["unicode/utf8.first", "unicode/utf8.acceptRanges", "internal/bytealg.MaxLen"], plainKeys := false, apart := false, laid := [("unicode/utf8.acceptRanges", laid_unicode_utf8_acceptRanges), ("unicode/utf8.first", laid_unicode_utf8_first)], narrowed := true }
def PathJoinsUptoSaid : Prop := pathJoinsUptoRow.holds Tryd.pinned (OpenSpec.upto pathJoinsSpec)

/-- 'consistorylaw08.PathMade', WHERE WHAT IT READS IS OF BULK AT MOST 1048576: true; the input reads as it did. -/
def pathMadeUptoRow : OpenClaim := { program := "yteakdlhhamgfbaadoor", sum := "bd661e2365931f363bc6245d8bf531d98eb789db6da25d599dba14edaf5c673b", func := "consistory/consistorylaw08.PathMade", spec := "pathMade", inPlace := ["internal/bytealg.CountString", "internal/bytealg.IndexByteString", "internal/bytealg.IndexString"], unfollowed := true, recurses := true, named := ["unicode/utf8.first", "unicode/utf8.acceptRanges", "internal/bytealg.MaxLen"], plainKeys := false, apart := false, laid := [("unicode/utf8.acceptRanges", laid_unicode_utf8_acceptRanges), ("unicode/utf8.first", laid_unicode_utf8_first)], narrowed := true }
def PathMadeUptoSaid : Prop := pathMadeUptoRow.holds Tryd.pinned (OpenSpec.upto pathMadeSpec)

/-- 'consistorylaw11.WatchMay', WHERE WHAT IT READS IS OF BULK AT MOST 1048576: true; the input reads as it did. -/
def watchMayUptoRow : OpenClaim := { program := "yteakdlhhamgfbaadoor", sum := "bd661e2365931f363bc6245d8bf531d98eb789db6da25d599dba14edaf5c673b", func := "consistory/consistorylaw11.WatchMay", spec := "watchMay", inPlace := ["internal/bytealg.CountString", "internal/bytealg.IndexByteString", "internal/bytealg.IndexString"], unfollowed := true, recurses := true, named := ["unicode/utf8.first", "unicode/utf8.acceptRanges", "internal/bytealg.MaxLen"], plainKeys := false, apart := false, laid := [("unicode/utf8.acceptRanges", laid_unicode_utf8_acceptRanges), ("unicode/utf8.first", laid_unicode_utf8_first)], narrowed := true }
def WatchMayUptoSaid : Prop := watchMayUptoRow.holds Tryd.pinned (OpenSpec.upto watchMaySpec)

/-- 'consistorylaw09.ShelfMay', WHERE WHAT IT READS IS OF BULK AT MOST 1048576: true; the input reads as it did. -/
def shelfMayUptoRow : OpenClaim := { program := "yteakdlhhamgfbaadoor", sum := "bd661e2365931f363bc6245d8bf531d98eb789db6da25d599dba14edaf5c673b", func := "consistory/consistorylaw09.ShelfMay", spec := "shelfMay", inPlace := ["internal/bytealg.CountString", "internal/bytealg.IndexByteString", "internal/bytealg.IndexString", "slices.overlaps[consistory/shelf.Node]"], unfollowed := true, recurses := true, named := ["unicode/utf8.first", "unicode/utf8.acceptRanges", "internal/bytealg.MaxLen"], plainKeys := false, apart := false, laid := [("unicode/utf8.acceptRanges", laid_unicode_utf8_acceptRanges), ("unicode/utf8.first", laid_unicode_utf8_first)], narrowed := true }
def ShelfMayUptoSaid : Prop := shelfMayUptoRow.holds Tryd.pinned (OpenSpec.upto shelfMaySpec)

/-- 'consistorylaw09.ShelfAsks', WHERE WHAT IT READS IS OF BULK AT MOST 1048576: true; the input reads as it did. -/
def shelfAsksUptoRow : OpenClaim := { program := "yteakdlhhamgfbaadoor", sum := "bd661e2365931f363bc6245d8bf531d98eb789db6da25d599dba14edaf5c673b", func := "consistory/consistorylaw09.ShelfAsks", spec := "shelfAsks", inPlace := ["internal/bytealg.CountString", "internal/bytealg.IndexByteString", "internal/bytealg.IndexString", "slices.overlaps[consistory/shelf.Node]"], unfollowed := true, recurses := true, named := ["unicode/utf8.first", "unicode/utf8.acceptRanges", "internal/bytealg.MaxLen"], plainKeys := false, apart := false, laid := [("unicode/utf8.acceptRanges", laid_unicode_utf8_acceptRanges), ("unicode/utf8.first", laid_unicode_utf8_first)], narrowed := true }
def ShelfAsksUptoSaid : Prop := shelfAsksUptoRow.holds Tryd.pinned (OpenSpec.upto shelfAsksSpec)

/-- 'consistorylaw09.ShelfDrops', WHERE WHAT IT READS IS OF BULK AT MOST 1048576: true; the input reads as it did. -/
def shelfDropsUptoRow : OpenClaim := { program := "yteakdlhhamgfbaadoor", sum := "bd661e2365931f363bc6245d8bf531d98eb789db6da25d599dba14edaf5c673b", func := "consistory/consistorylaw09.ShelfDrops", spec := "shelfDrops", inPlace := ["internal/bytealg.CountString", "internal/bytealg.IndexByteString", "internal/bytealg.IndexString", "slices.overlaps[consistory/shelf.Node]"], unfollowed := true, recurses := true, named := ["unicode/utf8.first", "unicode/utf8.acceptRanges", "internal/bytealg.MaxLen"], plainKeys := false, apart := false, laid := [("unicode/utf8.acceptRanges", laid_unicode_utf8_acceptRanges), ("unicode/utf8.first", laid_unicode_utf8_first)], narrowed := true }
def ShelfDropsUptoSaid : Prop := shelfDropsUptoRow.holds Tryd.pinned (OpenSpec.upto shelfDropsSpec)

/-- 'consistorylaw09.ShelfKids', WHERE WHAT IT READS IS OF BULK AT MOST 1048576: true; the input reads as it did. -/
def shelfKidsUptoRow : OpenClaim := { program := "yteakdlhhamgfbaadoor", sum := "bd661e2365931f363bc6245d8bf531d98eb789db6da25d599dba14edaf5c673b", func := "consistory/consistorylaw09.ShelfKids", spec := "shelfKids", inPlace := ["internal/bytealg.CountString", "internal/bytealg.IndexByteString", "internal/bytealg.IndexString", "slices.overlaps[consistory/shelf.Node]"], unfollowed := true, recurses := true, named := ["unicode/utf8.first", "unicode/utf8.acceptRanges", "internal/bytealg.MaxLen"], plainKeys := false, apart := false, laid := [("unicode/utf8.acceptRanges", laid_unicode_utf8_acceptRanges), ("unicode/utf8.first", laid_unicode_utf8_first)], narrowed := true }
def ShelfKidsUptoSaid : Prop := shelfKidsUptoRow.holds Tryd.pinned (OpenSpec.upto shelfKidsSpec)

/-- 'consistorylaw09.ShelfJust', WHERE WHAT IT READS IS OF BULK AT MOST 1048576: true; the input reads as it did. -/
def shelfJustUptoRow : OpenClaim := { program := "yteakdlhhamgfbaadoor", sum := "bd661e2365931f363bc6245d8bf531d98eb789db6da25d599dba14edaf5c673b", func := "consistory/consistorylaw09.ShelfJust", spec := "shelfJust", inPlace := ["internal/bytealg.CountString", "internal/bytealg.IndexByteString", "internal/bytealg.IndexString", "slices.overlaps[consistory/shelf.Node]"], unfollowed := true, recurses := true, named := ["unicode/utf8.first", "unicode/utf8.acceptRanges", "internal/bytealg.MaxLen"], plainKeys := false, apart := false, laid := [("unicode/utf8.acceptRanges", laid_unicode_utf8_acceptRanges), ("unicode/utf8.first", laid_unicode_utf8_first)], narrowed := true }
def ShelfJustUptoSaid : Prop := shelfJustUptoRow.holds Tryd.pinned (OpenSpec.upto shelfJustSpec)

/-- 'consistorylaw09.ShelfChanges', WHERE WHAT IT READS IS OF BULK AT MOST 1048576: true; the input reads as it did. -/
def shelfChangesUptoRow : OpenClaim := { program := "yteakdlhhamgfbaadoor", sum := "bd661e2365931f363bc6245d8bf531d98eb789db6da25d599dba14edaf5c673b", func := "consistory/consistorylaw09.ShelfChanges", spec := "shelfChanges", inPlace := ["internal/bytealg.CountString", "internal/bytealg.IndexByteString", "internal/bytealg.IndexString", "slices.overlaps[consistory/shelf.Node]"], unfollowed := true, recurses := true, named := ["unicode/utf8.first", "unicode/utf8.acceptRanges", "internal/bytealg.MaxLen"], plainKeys := false, apart := false, laid := [("unicode/utf8.acceptRanges", laid_unicode_utf8_acceptRanges), ("unicode/utf8.first", laid_unicode_utf8_first)], narrowed := true }
def ShelfChangesUptoSaid : Prop := shelfChangesUptoRow.holds Tryd.pinned (OpenSpec.upto shelfChangesSpec)

end Rows
end Go.Proofs.YteakdlhhamgfbaaDoor
