/-
  No cell of these rows narrows 'for every input' (looked for: loops, veiled, ifaces, maps, wideKeys, modest, calm, conditions, laid).
  DERIVED. THE GIVEN ROWS OF THIS SEAT. 13 by the template 'for every input the law returns true; each argument reads behind the call as it read before'; 0 by the template 'total and deterministic' (their statements: YtmdniblpkkoeoaaTotals.lean).
  GIVEN WITH THE SEED: the statements are not yours to turn. If you find one false, say at which input.
  Laid BY PROGRAM, IN A SANDBOX (cutbox-rows.mjs): the forced cells as the released guide's own fill.sh prints them over the translation 32555f7cef103085… (all of the seat's roots in one cut). By AI agents, Wed Nov 11 2026. No macro, syntax, notation, axiom, sorry.
-/
import Derived.Test.YtmdniblpkkoeoaaChecked
import GoSem.Claim
import GoSem.ClaimJoined
import GoSem.ClaimMapViews
import Derived.JoinedTies
import Derived.KernelRfl
namespace Go.Proofs.Ytmdniblpkkoeoaa
/- THE CELL 'sum', in the pinned program and in every row, IS THE sha256 OF THE DUMP (.gsa) THAT YtmdniblpkkoeoaaProg.lean LOADS. Nothing in Lean hashes anything: it is a label: what it is worth is what the hold of that sum in a sandbox is worth. -/
noncomputable def Try.pinned : Pinned := { name := "ytmdniblpkkoeoaa", sum := "32555f7cef103085a8cfc6842385f7ce0dca5b5f301700f0b92ed28cecbe3bad", checked := Try.checked }
namespace Rows
def none {H : Type} : Left H := { results := [], args := [] }

/-- 'consistorylaw25.WindowOrders': WHATEVER THE INPUT: true; the input reads as it did. -/
def windowOrdersSpec : ChangeSpec := { name := "windowOrders", fn := fun _ => fun
  | [d1, d2] => { results := [.lit (.bool true)], args := [d1, d2] }
  | _ => none }
def windowOrdersRow : OpenClaim := { program := "ytmdniblpkkoeoaa", sum := "32555f7cef103085a8cfc6842385f7ce0dca5b5f301700f0b92ed28cecbe3bad", func := "consistory/consistorylaw25.WindowOrders", spec := "windowOrders", inPlace := ["slices.overlaps[consistory/window.Entry]"], unfollowed := true, recurses := true, plainKeys := false, apart := false }
def WindowOrdersSaid : Prop := windowOrdersRow.holds Try.pinned (OpenSpec.ofChange windowOrdersSpec)

/-- ITS FALSE NEIGHBOUR: 'it returns false'. Refute it at one input. -/
def windowOrdersWrong : ChangeSpec := { name := "windowOrders", fn := fun _ => fun
  | [d1, d2] => { results := [.lit (.bool false)], args := [d1, d2] }
  | _ => none }
def WindowOrdersWrongFalsely : Prop := windowOrdersRow.holds Try.pinned (OpenSpec.ofChange windowOrdersWrong)

/-- 'consistorylaw18.TallyTells': WHATEVER THE INPUT: true; the input reads as it did. -/
def tallyTellsSpec : ChangeSpec := { name := "tallyTells", fn := fun _ => fun
  | [d1, d2, d3] => { results := [.lit (.bool true)], args := [d1, d2, d3] }
  | _ => none }
def tallyTellsRow : OpenClaim := { program := "ytmdniblpkkoeoaa", sum := "32555f7cef103085a8cfc6842385f7ce0dca5b5f301700f0b92ed28cecbe3bad", func := "consistory/consistorylaw18.TallyTells", spec := "tallyTells", inPlace := ["slices.overlaps[consistory/api.Accept]"], unfollowed := true, recurses := true, plainKeys := false, apart := false }
def TallyTellsSaid : Prop := tallyTellsRow.holds Try.pinned (OpenSpec.ofChange tallyTellsSpec)

/-- ITS FALSE NEIGHBOUR: 'it returns false'. Refute it at one input. -/
def tallyTellsWrong : ChangeSpec := { name := "tallyTells", fn := fun _ => fun
  | [d1, d2, d3] => { results := [.lit (.bool false)], args := [d1, d2, d3] }
  | _ => none }
def TallyTellsWrongFalsely : Prop := tallyTellsRow.holds Try.pinned (OpenSpec.ofChange tallyTellsWrong)

/-- 'consistorylaw18.TallyNewest': WHATEVER THE INPUT: true; the input reads as it did. -/
def tallyNewestSpec : ChangeSpec := { name := "tallyNewest", fn := fun _ => fun
  | [d] => { results := [.lit (.bool true)], args := [d] }
  | _ => none }
def tallyNewestRow : OpenClaim := { program := "ytmdniblpkkoeoaa", sum := "32555f7cef103085a8cfc6842385f7ce0dca5b5f301700f0b92ed28cecbe3bad", func := "consistory/consistorylaw18.TallyNewest", spec := "tallyNewest", inPlace := ["slices.overlaps[consistory/api.Accept]"], unfollowed := true, recurses := true, plainKeys := false, apart := false }
def TallyNewestSaid : Prop := tallyNewestRow.holds Try.pinned (OpenSpec.ofChange tallyNewestSpec)

/-- ITS FALSE NEIGHBOUR: 'it returns false'. Refute it at one input. -/
def tallyNewestWrong : ChangeSpec := { name := "tallyNewest", fn := fun _ => fun
  | [d] => { results := [.lit (.bool false)], args := [d] }
  | _ => none }
def TallyNewestWrongFalsely : Prop := tallyNewestRow.holds Try.pinned (OpenSpec.ofChange tallyNewestWrong)

/-- 'consistorylaw18.TallyBest': WHATEVER THE INPUT: true; the input reads as it did. -/
def tallyBestSpec : ChangeSpec := { name := "tallyBest", fn := fun _ => fun
  | [d1, d2] => { results := [.lit (.bool true)], args := [d1, d2] }
  | _ => none }
def tallyBestRow : OpenClaim := { program := "ytmdniblpkkoeoaa", sum := "32555f7cef103085a8cfc6842385f7ce0dca5b5f301700f0b92ed28cecbe3bad", func := "consistory/consistorylaw18.TallyBest", spec := "tallyBest", inPlace := ["slices.overlaps[consistory/api.Accept]"], unfollowed := true, recurses := true, plainKeys := false, apart := false }
def TallyBestSaid : Prop := tallyBestRow.holds Try.pinned (OpenSpec.ofChange tallyBestSpec)

/-- ITS FALSE NEIGHBOUR: 'it returns false'. Refute it at one input. -/
def tallyBestWrong : ChangeSpec := { name := "tallyBest", fn := fun _ => fun
  | [d1, d2] => { results := [.lit (.bool false)], args := [d1, d2] }
  | _ => none }
def TallyBestWrongFalsely : Prop := tallyBestRow.holds Try.pinned (OpenSpec.ofChange tallyBestWrong)

/-- 'consistorylaw25.WindowTurns': WHATEVER THE INPUT: true; the input reads as it did. -/
def windowTurnsSpec : ChangeSpec := { name := "windowTurns", fn := fun _ => fun
  | [d1, d2, d3] => { results := [.lit (.bool true)], args := [d1, d2, d3] }
  | _ => none }
def windowTurnsRow : OpenClaim := { program := "ytmdniblpkkoeoaa", sum := "32555f7cef103085a8cfc6842385f7ce0dca5b5f301700f0b92ed28cecbe3bad", func := "consistory/consistorylaw25.WindowTurns", spec := "windowTurns", inPlace := ["slices.overlaps[consistory/window.Entry]"], unfollowed := true, recurses := true, plainKeys := false, apart := false }
def WindowTurnsSaid : Prop := windowTurnsRow.holds Try.pinned (OpenSpec.ofChange windowTurnsSpec)

/-- ITS FALSE NEIGHBOUR: 'it returns false'. Refute it at one input. -/
def windowTurnsWrong : ChangeSpec := { name := "windowTurns", fn := fun _ => fun
  | [d1, d2, d3] => { results := [.lit (.bool false)], args := [d1, d2, d3] }
  | _ => none }
def WindowTurnsWrongFalsely : Prop := windowTurnsRow.holds Try.pinned (OpenSpec.ofChange windowTurnsWrong)

/-- 'consistorylaw25.WindowOpens': WHATEVER THE INPUT: true; the input reads as it did. -/
def windowOpensSpec : ChangeSpec := { name := "windowOpens", fn := fun _ => fun
  | [d1, d2] => { results := [.lit (.bool true)], args := [d1, d2] }
  | _ => none }
def windowOpensRow : OpenClaim := { program := "ytmdniblpkkoeoaa", sum := "32555f7cef103085a8cfc6842385f7ce0dca5b5f301700f0b92ed28cecbe3bad", func := "consistory/consistorylaw25.WindowOpens", spec := "windowOpens", inPlace := ["slices.overlaps[consistory/window.Entry]"], unfollowed := true, recurses := true, plainKeys := false, apart := false }
def WindowOpensSaid : Prop := windowOpensRow.holds Try.pinned (OpenSpec.ofChange windowOpensSpec)

/-- ITS FALSE NEIGHBOUR: 'it returns false'. Refute it at one input. -/
def windowOpensWrong : ChangeSpec := { name := "windowOpens", fn := fun _ => fun
  | [d1, d2] => { results := [.lit (.bool false)], args := [d1, d2] }
  | _ => none }
def WindowOpensWrongFalsely : Prop := windowOpensRow.holds Try.pinned (OpenSpec.ofChange windowOpensWrong)

/-- 'consistorylaw26.MarkTurns': WHATEVER THE INPUT: true; the input reads as it did. -/
def markTurnsSpec : ChangeSpec := { name := "markTurns", fn := fun _ => fun
  | [d1, d2, d3] => { results := [.lit (.bool true)], args := [d1, d2, d3] }
  | _ => none }
def markTurnsRow : OpenClaim := { program := "ytmdniblpkkoeoaa", sum := "32555f7cef103085a8cfc6842385f7ce0dca5b5f301700f0b92ed28cecbe3bad", func := "consistory/consistorylaw26.MarkTurns", spec := "markTurns", inPlace := ["slices.overlaps[consistory/mark.Mark]"], unfollowed := true, recurses := true, plainKeys := false, apart := false }
def MarkTurnsSaid : Prop := markTurnsRow.holds Try.pinned (OpenSpec.ofChange markTurnsSpec)

/-- ITS FALSE NEIGHBOUR: 'it returns false'. Refute it at one input. -/
def markTurnsWrong : ChangeSpec := { name := "markTurns", fn := fun _ => fun
  | [d1, d2, d3] => { results := [.lit (.bool false)], args := [d1, d2, d3] }
  | _ => none }
def MarkTurnsWrongFalsely : Prop := markTurnsRow.holds Try.pinned (OpenSpec.ofChange markTurnsWrong)

/-- 'consistorylaw26.MarkStable': WHATEVER THE INPUT: true; the input reads as it did. -/
def markStableSpec : ChangeSpec := { name := "markStable", fn := fun _ => fun
  | [d1, d2, d3] => { results := [.lit (.bool true)], args := [d1, d2, d3] }
  | _ => none }
def markStableRow : OpenClaim := { program := "ytmdniblpkkoeoaa", sum := "32555f7cef103085a8cfc6842385f7ce0dca5b5f301700f0b92ed28cecbe3bad", func := "consistory/consistorylaw26.MarkStable", spec := "markStable", inPlace := ["slices.overlaps[consistory/mark.Mark]"], unfollowed := true, recurses := true, plainKeys := false, apart := false }
def MarkStableSaid : Prop := markStableRow.holds Try.pinned (OpenSpec.ofChange markStableSpec)

/-- ITS FALSE NEIGHBOUR: 'it returns false'. Refute it at one input. -/
def markStableWrong : ChangeSpec := { name := "markStable", fn := fun _ => fun
  | [d1, d2, d3] => { results := [.lit (.bool false)], args := [d1, d2, d3] }
  | _ => none }
def MarkStableWrongFalsely : Prop := markStableRow.holds Try.pinned (OpenSpec.ofChange markStableWrong)

/-- 'consistorylaw26.MarkNewest': WHATEVER THE INPUT: true; the input reads as it did. -/
def markNewestSpec : ChangeSpec := { name := "markNewest", fn := fun _ => fun
  | [d1, d2, d3] => { results := [.lit (.bool true)], args := [d1, d2, d3] }
  | _ => none }
def markNewestRow : OpenClaim := { program := "ytmdniblpkkoeoaa", sum := "32555f7cef103085a8cfc6842385f7ce0dca5b5f301700f0b92ed28cecbe3bad", func := "consistory/consistorylaw26.MarkNewest", spec := "markNewest", inPlace := ["slices.overlaps[consistory/mark.Mark]"], unfollowed := true, recurses := true, plainKeys := false, apart := false }
def MarkNewestSaid : Prop := markNewestRow.holds Try.pinned (OpenSpec.ofChange markNewestSpec)

/-- ITS FALSE NEIGHBOUR: 'it returns false'. Refute it at one input. -/
def markNewestWrong : ChangeSpec := { name := "markNewest", fn := fun _ => fun
  | [d1, d2, d3] => { results := [.lit (.bool false)], args := [d1, d2, d3] }
  | _ => none }
def MarkNewestWrongFalsely : Prop := markNewestRow.holds Try.pinned (OpenSpec.ofChange markNewestWrong)

/-- 'consistorylaw18.TallyMay': WHATEVER THE INPUT: true; the input reads as it did. -/
def tallyMaySpec : ChangeSpec := { name := "tallyMay", fn := fun _ => fun
  | [d1, d2, d3] => { results := [.lit (.bool true)], args := [d1, d2, d3] }
  | _ => none }
def tallyMayRow : OpenClaim := { program := "ytmdniblpkkoeoaa", sum := "32555f7cef103085a8cfc6842385f7ce0dca5b5f301700f0b92ed28cecbe3bad", func := "consistory/consistorylaw18.TallyMay", spec := "tallyMay", inPlace := ["slices.overlaps[consistory/api.Accept]"], unfollowed := true, recurses := true, plainKeys := false, apart := false }
def TallyMaySaid : Prop := tallyMayRow.holds Try.pinned (OpenSpec.ofChange tallyMaySpec)

/-- ITS FALSE NEIGHBOUR: 'it returns false'. Refute it at one input. -/
def tallyMayWrong : ChangeSpec := { name := "tallyMay", fn := fun _ => fun
  | [d1, d2, d3] => { results := [.lit (.bool false)], args := [d1, d2, d3] }
  | _ => none }
def TallyMayWrongFalsely : Prop := tallyMayRow.holds Try.pinned (OpenSpec.ofChange tallyMayWrong)

/-- 'consistorylaw18.TallyTwo': WHATEVER THE INPUT: true; the input reads as it did. -/
def tallyTwoSpec : ChangeSpec := { name := "tallyTwo", fn := fun _ => fun
  | [d1, d2, d3] => { results := [.lit (.bool true)], args := [d1, d2, d3] }
  | _ => none }
def tallyTwoRow : OpenClaim := { program := "ytmdniblpkkoeoaa", sum := "32555f7cef103085a8cfc6842385f7ce0dca5b5f301700f0b92ed28cecbe3bad", func := "consistory/consistorylaw18.TallyTwo", spec := "tallyTwo", inPlace := ["slices.overlaps[consistory/api.Accept]"], unfollowed := true, recurses := true, plainKeys := false, apart := false }
def TallyTwoSaid : Prop := tallyTwoRow.holds Try.pinned (OpenSpec.ofChange tallyTwoSpec)

/-- ITS FALSE NEIGHBOUR: 'it returns false'. Refute it at one input. -/
def tallyTwoWrong : ChangeSpec := { name := "tallyTwo", fn := fun _ => fun
  | [d1, d2, d3] => { results := [.lit (.bool false)], args := [d1, d2, d3] }
  | _ => none }
def TallyTwoWrongFalsely : Prop := tallyTwoRow.holds Try.pinned (OpenSpec.ofChange tallyTwoWrong)

/-- 'consistorylaw25.WindowMay': WHATEVER THE INPUT: true; the input reads as it did. -/
def windowMaySpec : ChangeSpec := { name := "windowMay", fn := fun _ => fun
  | [d1, d2, d3] => { results := [.lit (.bool true)], args := [d1, d2, d3] }
  | _ => none }
def windowMayRow : OpenClaim := { program := "ytmdniblpkkoeoaa", sum := "32555f7cef103085a8cfc6842385f7ce0dca5b5f301700f0b92ed28cecbe3bad", func := "consistory/consistorylaw25.WindowMay", spec := "windowMay", inPlace := ["slices.overlaps[consistory/window.Entry]"], unfollowed := true, recurses := true, plainKeys := false, apart := false }
def WindowMaySaid : Prop := windowMayRow.holds Try.pinned (OpenSpec.ofChange windowMaySpec)

/-- ITS FALSE NEIGHBOUR: 'it returns false'. Refute it at one input. -/
def windowMayWrong : ChangeSpec := { name := "windowMay", fn := fun _ => fun
  | [d1, d2, d3] => { results := [.lit (.bool false)], args := [d1, d2, d3] }
  | _ => none }
def WindowMayWrongFalsely : Prop := windowMayRow.holds Try.pinned (OpenSpec.ofChange windowMayWrong)

/-- 'consistorylaw26.MarkMay': WHATEVER THE INPUT: true; the input reads as it did. -/
def markMaySpec : ChangeSpec := { name := "markMay", fn := fun _ => fun
  | [d1, d2, d3] => { results := [.lit (.bool true)], args := [d1, d2, d3] }
  | _ => none }
def markMayRow : OpenClaim := { program := "ytmdniblpkkoeoaa", sum := "32555f7cef103085a8cfc6842385f7ce0dca5b5f301700f0b92ed28cecbe3bad", func := "consistory/consistorylaw26.MarkMay", spec := "markMay", inPlace := ["slices.overlaps[consistory/mark.Mark]"], unfollowed := true, recurses := true, plainKeys := false, apart := false }
def MarkMaySaid : Prop := markMayRow.holds Try.pinned (OpenSpec.ofChange markMaySpec)

/-- ITS FALSE NEIGHBOUR: 'it returns false'. Refute it at one input. -/
def markMayWrong : ChangeSpec := { name := "markMay", fn := fun _ => fun
  | [d1, d2, d3] => { results := [.lit (.bool false)], args := [d1, d2, d3] }
  | _ => none }
def MarkMayWrongFalsely : Prop := markMayRow.holds Try.pinned (OpenSpec.ofChange markMayWrong)

/- THE SECOND FORM. 'bulk': how many values and letters a reading holds, each counted each time it is reached (what is shared counts as often as it is met; a slice's spare places count too). A statement '..UptoSaid' is the law's where the arguments, and the package variables that the reading takes, are together of bulk at most 1048576: NARROWER than '..Said'. Prove '..Said' where nothing that the law and all that it calls make is longer than what came in: it says more and counts as full. Else prove '..UptoSaid'. A law counts once. -/
mutual
def uptoBulk {H : Type} : DataW H → Nat
  | .lit (.string bytes) => bytes.length + 1
  | .lit _ => 1
  | .nil => 1
  | .ptr d => uptoBulk d + 1
  | .slice elems spare => uptoBulkAll elems + uptoBulkAll spare + 1
  | .agg parts => uptoBulkAll parts + 1
  | .iface _ d => uptoBulk d + 1
  | .map entries => uptoBulkEntries entries + 1
  | .held _ => 1
def uptoBulkAll {H : Type} : List (DataW H) → Nat
  | [] => 0
  | d :: r => uptoBulk d + uptoBulkAll r
def uptoBulkEntries {H : Type} : List (Lit × DataW H) → Nat
  | [] => 0
  | x :: r => uptoBulkEntry x + uptoBulkEntries r
def uptoBulkEntry {H : Type} : Lit × DataW H → Nat
  | (.string bytes, d) => bytes.length + uptoBulk d + 1
  | (_, d) => uptoBulk d + 1
 end
def uptoSmall : (H : Type) → List (DataW H) → Bool := fun _ ds => decide (uptoBulkAll ds ≤ 1048576)
def OpenSpec.upto (s : _root_.Go.ChangeSpec) : _root_.Go.OpenSpec := { _root_.Go.OpenSpec.ofChange s with cond := some uptoSmall }

/-- 'consistorylaw25.WindowOrders', WHERE WHAT IT READS IS OF BULK AT MOST 1048576: true; the input reads as it did. -/
def windowOrdersUptoRow : OpenClaim := { program := "ytmdniblpkkoeoaa", sum := "32555f7cef103085a8cfc6842385f7ce0dca5b5f301700f0b92ed28cecbe3bad", func := "consistory/consistorylaw25.WindowOrders", spec := "windowOrders", inPlace := ["slices.overlaps[consistory/window.Entry]"], unfollowed := true, recurses := true, plainKeys := false, apart := false, narrowed := true }
def WindowOrdersUptoSaid : Prop := windowOrdersUptoRow.holds Try.pinned (OpenSpec.upto windowOrdersSpec)

/-- 'consistorylaw18.TallyTells', WHERE WHAT IT READS IS OF BULK AT MOST 1048576: true; the input reads as it did. -/
def tallyTellsUptoRow : OpenClaim := { program := "ytmdniblpkkoeoaa", sum := "32555f7cef103085a8cfc6842385f7ce0dca5b5f301700f0b92ed28cecbe3bad", func := "consistory/consistorylaw18.TallyTells", spec := "tallyTells", inPlace := ["slices.overlaps[consistory/api.Accept]"], unfollowed := true, recurses := true, plainKeys := false, apart := false, narrowed := true }
def TallyTellsUptoSaid : Prop := tallyTellsUptoRow.holds Try.pinned (OpenSpec.upto tallyTellsSpec)

/-- 'consistorylaw18.TallyNewest', WHERE WHAT IT READS IS OF BULK AT MOST 1048576: true; the input reads as it did. -/
def tallyNewestUptoRow : OpenClaim := { program := "ytmdniblpkkoeoaa", sum := "32555f7cef103085a8cfc6842385f7ce0dca5b5f301700f0b92ed28cecbe3bad", func := "consistory/consistorylaw18.TallyNewest", spec := "tallyNewest", inPlace := ["slices.overlaps[consistory/api.Accept]"], unfollowed := true, recurses := true, plainKeys := false, apart := false, narrowed := true }
def TallyNewestUptoSaid : Prop := tallyNewestUptoRow.holds Try.pinned (OpenSpec.upto tallyNewestSpec)

/-- 'consistorylaw18.TallyBest', WHERE WHAT IT READS IS OF BULK AT MOST 1048576: true; the input reads as it did. -/
def tallyBestUptoRow : OpenClaim := { program := "ytmdniblpkkoeoaa", sum := "32555f7cef103085a8cfc6842385f7ce0dca5b5f301700f0b92ed28cecbe3bad", func := "consistory/consistorylaw18.TallyBest", spec := "tallyBest", inPlace := ["slices.overlaps[consistory/api.Accept]"], unfollowed := true, recurses := true, plainKeys := false, apart := false, narrowed := true }
def TallyBestUptoSaid : Prop := tallyBestUptoRow.holds Try.pinned (OpenSpec.upto tallyBestSpec)

/-- 'consistorylaw25.WindowTurns', WHERE WHAT IT READS IS OF BULK AT MOST 1048576: true; the input reads as it did. -/
def windowTurnsUptoRow : OpenClaim := { program := "ytmdniblpkkoeoaa", sum := "32555f7cef103085a8cfc6842385f7ce0dca5b5f301700f0b92ed28cecbe3bad", func := "consistory/consistorylaw25.WindowTurns", spec := "windowTurns", inPlace := ["slices.overlaps[consistory/window.Entry]"], unfollowed := true, recurses := true, plainKeys := false, apart := false, narrowed := true }
def WindowTurnsUptoSaid : Prop := windowTurnsUptoRow.holds Try.pinned (OpenSpec.upto windowTurnsSpec)

/-- 'consistorylaw25.WindowOpens', WHERE WHAT IT READS IS OF BULK AT MOST 1048576: true; the input reads as it did. -/
def windowOpensUptoRow : OpenClaim := { program := "ytmdniblpkkoeoaa", sum := "32555f7cef103085a8cfc6842385f7ce0dca5b5f301700f0b92ed28cecbe3bad", func := "consistory/consistorylaw25.WindowOpens", spec := "windowOpens", inPlace := ["slices.overlaps[consistory/window.Entry]"], unfollowed := true, recurses := true, plainKeys := false, apart := false, narrowed := true }
def WindowOpensUptoSaid : Prop := windowOpensUptoRow.holds Try.pinned (OpenSpec.upto windowOpensSpec)

/-- 'consistorylaw26.MarkTurns', WHERE WHAT IT READS IS OF BULK AT MOST 1048576: true; the input reads as it did. -/
def markTurnsUptoRow : OpenClaim := { program := "ytmdniblpkkoeoaa", sum := "32555f7cef103085a8cfc6842385f7ce0dca5b5f301700f0b92ed28cecbe3bad", func := "consistory/consistorylaw26.MarkTurns", spec := "markTurns", inPlace := ["slices.overlaps[consistory/mark.Mark]"], unfollowed := true, recurses := true, plainKeys := false, apart := false, narrowed := true }
def MarkTurnsUptoSaid : Prop := markTurnsUptoRow.holds Try.pinned (OpenSpec.upto markTurnsSpec)

/-- 'consistorylaw26.MarkStable', WHERE WHAT IT READS IS OF BULK AT MOST 1048576: true; the input reads as it did. -/
def markStableUptoRow : OpenClaim := { program := "ytmdniblpkkoeoaa", sum := "32555f7cef103085a8cfc6842385f7ce0dca5b5f301700f0b92ed28cecbe3bad", func := "consistory/consistorylaw26.MarkStable", spec := "markStable", inPlace := ["slices.overlaps[consistory/mark.Mark]"], unfollowed := true, recurses := true, plainKeys := false, apart := false, narrowed := true }
def MarkStableUptoSaid : Prop := markStableUptoRow.holds Try.pinned (OpenSpec.upto markStableSpec)

/-- 'consistorylaw26.MarkNewest', WHERE WHAT IT READS IS OF BULK AT MOST 1048576: true; the input reads as it did. -/
def markNewestUptoRow : OpenClaim := { program := "ytmdniblpkkoeoaa", sum := "32555f7cef103085a8cfc6842385f7ce0dca5b5f301700f0b92ed28cecbe3bad", func := "consistory/consistorylaw26.MarkNewest", spec := "markNewest", inPlace := ["slices.overlaps[consistory/mark.Mark]"], unfollowed := true, recurses := true, plainKeys := false, apart := false, narrowed := true }
def MarkNewestUptoSaid : Prop := markNewestUptoRow.holds Try.pinned (OpenSpec.upto markNewestSpec)

/-- 'consistorylaw18.TallyMay', WHERE WHAT IT READS IS OF BULK AT MOST 1048576: true; the input reads as it did. -/
def tallyMayUptoRow : OpenClaim := { program := "ytmdniblpkkoeoaa", sum := "32555f7cef103085a8cfc6842385f7ce0dca5b5f301700f0b92ed28cecbe3bad", func := "consistory/consistorylaw18.TallyMay", spec := "tallyMay", inPlace := ["slices.overlaps[consistory/api.Accept]"], unfollowed := true, recurses := true, plainKeys := false, apart := false, narrowed := true }
def TallyMayUptoSaid : Prop := tallyMayUptoRow.holds Try.pinned (OpenSpec.upto tallyMaySpec)

/-- 'consistorylaw18.TallyTwo', WHERE WHAT IT READS IS OF BULK AT MOST 1048576: true; the input reads as it did. -/
def tallyTwoUptoRow : OpenClaim := { program := "ytmdniblpkkoeoaa", sum := "32555f7cef103085a8cfc6842385f7ce0dca5b5f301700f0b92ed28cecbe3bad", func := "consistory/consistorylaw18.TallyTwo", spec := "tallyTwo", inPlace := ["slices.overlaps[consistory/api.Accept]"], unfollowed := true, recurses := true, plainKeys := false, apart := false, narrowed := true }
def TallyTwoUptoSaid : Prop := tallyTwoUptoRow.holds Try.pinned (OpenSpec.upto tallyTwoSpec)

/-- 'consistorylaw25.WindowMay', WHERE WHAT IT READS IS OF BULK AT MOST 1048576: true; the input reads as it did. -/
def windowMayUptoRow : OpenClaim := { program := "ytmdniblpkkoeoaa", sum := "32555f7cef103085a8cfc6842385f7ce0dca5b5f301700f0b92ed28cecbe3bad", func := "consistory/consistorylaw25.WindowMay", spec := "windowMay", inPlace := ["slices.overlaps[consistory/window.Entry]"], unfollowed := true, recurses := true, plainKeys := false, apart := false, narrowed := true }
def WindowMayUptoSaid : Prop := windowMayUptoRow.holds Try.pinned (OpenSpec.upto windowMaySpec)

/-- 'consistorylaw26.MarkMay', WHERE WHAT IT READS IS OF BULK AT MOST 1048576: true; the input reads as it did. -/
def markMayUptoRow : OpenClaim := { program := "ytmdniblpkkoeoaa", sum := "32555f7cef103085a8cfc6842385f7ce0dca5b5f301700f0b92ed28cecbe3bad", func := "consistory/consistorylaw26.MarkMay", spec := "markMay", inPlace := ["slices.overlaps[consistory/mark.Mark]"], unfollowed := true, recurses := true, plainKeys := false, apart := false, narrowed := true }
def MarkMayUptoSaid : Prop := markMayUptoRow.holds Try.pinned (OpenSpec.upto markMaySpec)

end Rows
end Go.Proofs.Ytmdniblpkkoeoaa
