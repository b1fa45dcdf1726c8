/-
  No cell of these rows narrows 'for every input' (looked for: loops, veiled, ifaces, maps, wideKeys, modest, calm, conditions, laid).
  DERIVED. THE GIVEN ROWS OF THIS SEAT. 8 by the template 'for every input the law returns true; each argument reads behind the call as it read before'; 0 by the template 'total and deterministic' (their statements: YtjblhgpbkfmkoaaTotals.lean).
  GIVEN WITH THE SEED: the statements are not yours to turn. If you find one false, say at which input.
  Laid BY PROGRAM, IN A SANDBOX (cutbox-rows.mjs): the forced cells as the released guide's own fill.sh prints them over the translation 94dd9b1b41cf13ea… (all of the seat's roots in one cut). By AI agents, Wed Nov 11 2026. No macro, syntax, notation, axiom, sorry.
-/
import Derived.Test.YtjblhgpbkfmkoaaChecked
import GoSem.Claim
import GoSem.ClaimJoined
import GoSem.ClaimMapViews
import Derived.JoinedTies
import Derived.KernelRfl
namespace Go.Proofs.Ytjblhgpbkfmkoaa
/- THE CELL 'sum', in the pinned program and in every row, IS THE sha256 OF THE DUMP (.gsa) THAT YtjblhgpbkfmkoaaProg.lean LOADS. Nothing in Lean hashes anything: it is a label: what it is worth is what the hold of that sum in a sandbox is worth. -/
noncomputable def Try.pinned : Pinned := { name := "ytjblhgpbkfmkoaa", sum := "94dd9b1b41cf13eadbe509e8c83a3433c8c4c04b2d0c5664be40c0ba2526843b", checked := Try.checked }
namespace Rows
def none {H : Type} : Left H := { results := [], args := [] }

/-- 'consistorylaw21.AcceptorMay': WHATEVER THE INPUT: true; the input reads as it did. -/
def acceptorMaySpec : ChangeSpec := { name := "acceptorMay", fn := fun _ => fun
  | [d1, d2, d3] => { results := [.lit (.bool true)], args := [d1, d2, d3] }
  | _ => none }
def acceptorMayRow : OpenClaim := { program := "ytjblhgpbkfmkoaa", sum := "94dd9b1b41cf13eadbe509e8c83a3433c8c4c04b2d0c5664be40c0ba2526843b", func := "consistory/consistorylaw21.AcceptorMay", spec := "acceptorMay", plainKeys := false, apart := false }
def AcceptorMaySaid : Prop := acceptorMayRow.holds Try.pinned (OpenSpec.ofChange acceptorMaySpec)

/-- ITS FALSE NEIGHBOUR: 'it returns false'. Refute it at one input. -/
def acceptorMayWrong : ChangeSpec := { name := "acceptorMay", fn := fun _ => fun
  | [d1, d2, d3] => { results := [.lit (.bool false)], args := [d1, d2, d3] }
  | _ => none }
def AcceptorMayWrongFalsely : Prop := acceptorMayRow.holds Try.pinned (OpenSpec.ofChange acceptorMayWrong)

/-- 'consistorylaw22.LearnerMay': WHATEVER THE INPUT: true; the input reads as it did. -/
def learnerMaySpec : ChangeSpec := { name := "learnerMay", fn := fun _ => fun
  | [d1, d2, d3] => { results := [.lit (.bool true)], args := [d1, d2, d3] }
  | _ => none }
def learnerMayRow : OpenClaim := { program := "ytjblhgpbkfmkoaa", sum := "94dd9b1b41cf13eadbe509e8c83a3433c8c4c04b2d0c5664be40c0ba2526843b", func := "consistory/consistorylaw22.LearnerMay", spec := "learnerMay", inPlace := ["slices.overlaps[consistory/api.Accept]"], unfollowed := true, recurses := true, plainKeys := false, apart := false }
def LearnerMaySaid : Prop := learnerMayRow.holds Try.pinned (OpenSpec.ofChange learnerMaySpec)

/-- ITS FALSE NEIGHBOUR: 'it returns false'. Refute it at one input. -/
def learnerMayWrong : ChangeSpec := { name := "learnerMay", fn := fun _ => fun
  | [d1, d2, d3] => { results := [.lit (.bool false)], args := [d1, d2, d3] }
  | _ => none }
def LearnerMayWrongFalsely : Prop := learnerMayRow.holds Try.pinned (OpenSpec.ofChange learnerMayWrong)

/-- 'consistorylaw21.AcceptorLoads': WHATEVER THE INPUT: true; the input reads as it did. -/
def acceptorLoadsSpec : ChangeSpec := { name := "acceptorLoads", fn := fun _ => fun
  | [d1, d2] => { results := [.lit (.bool true)], args := [d1, d2] }
  | _ => none }
def acceptorLoadsRow : OpenClaim := { program := "ytjblhgpbkfmkoaa", sum := "94dd9b1b41cf13eadbe509e8c83a3433c8c4c04b2d0c5664be40c0ba2526843b", func := "consistory/consistorylaw21.AcceptorLoads", spec := "acceptorLoads", plainKeys := false, apart := false }
def AcceptorLoadsSaid : Prop := acceptorLoadsRow.holds Try.pinned (OpenSpec.ofChange acceptorLoadsSpec)

/-- ITS FALSE NEIGHBOUR: 'it returns false'. Refute it at one input. -/
def acceptorLoadsWrong : ChangeSpec := { name := "acceptorLoads", fn := fun _ => fun
  | [d1, d2] => { results := [.lit (.bool false)], args := [d1, d2] }
  | _ => none }
def AcceptorLoadsWrongFalsely : Prop := acceptorLoadsRow.holds Try.pinned (OpenSpec.ofChange acceptorLoadsWrong)

/-- 'consistorylaw22.LearnerTurns': WHATEVER THE INPUT: true; the input reads as it did. -/
def learnerTurnsSpec : ChangeSpec := { name := "learnerTurns", fn := fun _ => fun
  | [d1, d2] => { results := [.lit (.bool true)], args := [d1, d2] }
  | _ => none }
def learnerTurnsRow : OpenClaim := { program := "ytjblhgpbkfmkoaa", sum := "94dd9b1b41cf13eadbe509e8c83a3433c8c4c04b2d0c5664be40c0ba2526843b", func := "consistory/consistorylaw22.LearnerTurns", spec := "learnerTurns", inPlace := ["slices.overlaps[consistory/api.Accept]"], unfollowed := true, recurses := true, plainKeys := false, apart := false }
def LearnerTurnsSaid : Prop := learnerTurnsRow.holds Try.pinned (OpenSpec.ofChange learnerTurnsSpec)

/-- ITS FALSE NEIGHBOUR: 'it returns false'. Refute it at one input. -/
def learnerTurnsWrong : ChangeSpec := { name := "learnerTurns", fn := fun _ => fun
  | [d1, d2] => { results := [.lit (.bool false)], args := [d1, d2] }
  | _ => none }
def LearnerTurnsWrongFalsely : Prop := learnerTurnsRow.holds Try.pinned (OpenSpec.ofChange learnerTurnsWrong)

/-- 'consistorylaw22.LearnerLearns': WHATEVER THE INPUT: true; the input reads as it did. -/
def learnerLearnsSpec : ChangeSpec := { name := "learnerLearns", fn := fun _ => fun
  | [d1, d2, d3] => { results := [.lit (.bool true)], args := [d1, d2, d3] }
  | _ => none }
def learnerLearnsRow : OpenClaim := { program := "ytjblhgpbkfmkoaa", sum := "94dd9b1b41cf13eadbe509e8c83a3433c8c4c04b2d0c5664be40c0ba2526843b", func := "consistory/consistorylaw22.LearnerLearns", spec := "learnerLearns", inPlace := ["slices.overlaps[consistory/api.Accept]"], unfollowed := true, recurses := true, plainKeys := false, apart := false }
def LearnerLearnsSaid : Prop := learnerLearnsRow.holds Try.pinned (OpenSpec.ofChange learnerLearnsSpec)

/-- ITS FALSE NEIGHBOUR: 'it returns false'. Refute it at one input. -/
def learnerLearnsWrong : ChangeSpec := { name := "learnerLearns", fn := fun _ => fun
  | [d1, d2, d3] => { results := [.lit (.bool false)], args := [d1, d2, d3] }
  | _ => none }
def LearnerLearnsWrongFalsely : Prop := learnerLearnsRow.holds Try.pinned (OpenSpec.ofChange learnerLearnsWrong)

/-- 'consistorylaw22.LearnerStays': WHATEVER THE INPUT: true; the input reads as it did. -/
def learnerStaysSpec : ChangeSpec := { name := "learnerStays", fn := fun _ => fun
  | [d1, d2] => { results := [.lit (.bool true)], args := [d1, d2] }
  | _ => none }
def learnerStaysRow : OpenClaim := { program := "ytjblhgpbkfmkoaa", sum := "94dd9b1b41cf13eadbe509e8c83a3433c8c4c04b2d0c5664be40c0ba2526843b", func := "consistory/consistorylaw22.LearnerStays", spec := "learnerStays", inPlace := ["slices.overlaps[consistory/api.Accept]"], unfollowed := true, recurses := true, plainKeys := false, apart := false }
def LearnerStaysSaid : Prop := learnerStaysRow.holds Try.pinned (OpenSpec.ofChange learnerStaysSpec)

/-- ITS FALSE NEIGHBOUR: 'it returns false'. Refute it at one input. -/
def learnerStaysWrong : ChangeSpec := { name := "learnerStays", fn := fun _ => fun
  | [d1, d2] => { results := [.lit (.bool false)], args := [d1, d2] }
  | _ => none }
def LearnerStaysWrongFalsely : Prop := learnerStaysRow.holds Try.pinned (OpenSpec.ofChange learnerStaysWrong)

/-- 'consistorylaw21.AcceptorTurns': WHATEVER THE INPUT: true; the input reads as it did. -/
def acceptorTurnsSpec : ChangeSpec := { name := "acceptorTurns", fn := fun _ => fun
  | [d1, d2] => { results := [.lit (.bool true)], args := [d1, d2] }
  | _ => none }
def acceptorTurnsRow : OpenClaim := { program := "ytjblhgpbkfmkoaa", sum := "94dd9b1b41cf13eadbe509e8c83a3433c8c4c04b2d0c5664be40c0ba2526843b", func := "consistory/consistorylaw21.AcceptorTurns", spec := "acceptorTurns", inPlace := ["slices.overlaps[consistory/api.Accept]"], unfollowed := true, recurses := true, plainKeys := false, apart := false }
def AcceptorTurnsSaid : Prop := acceptorTurnsRow.holds Try.pinned (OpenSpec.ofChange acceptorTurnsSpec)

/-- ITS FALSE NEIGHBOUR: 'it returns false'. Refute it at one input. -/
def acceptorTurnsWrong : ChangeSpec := { name := "acceptorTurns", fn := fun _ => fun
  | [d1, d2] => { results := [.lit (.bool false)], args := [d1, d2] }
  | _ => none }
def AcceptorTurnsWrongFalsely : Prop := acceptorTurnsRow.holds Try.pinned (OpenSpec.ofChange acceptorTurnsWrong)

/-- 'consistorylaw21.AcceptorOnce': WHATEVER THE INPUT: true; the input reads as it did. -/
def acceptorOnceSpec : ChangeSpec := { name := "acceptorOnce", fn := fun _ => fun
  | [d1, d2, d3] => { results := [.lit (.bool true)], args := [d1, d2, d3] }
  | _ => none }
def acceptorOnceRow : OpenClaim := { program := "ytjblhgpbkfmkoaa", sum := "94dd9b1b41cf13eadbe509e8c83a3433c8c4c04b2d0c5664be40c0ba2526843b", func := "consistory/consistorylaw21.AcceptorOnce", spec := "acceptorOnce", inPlace := ["slices.overlaps[consistory/api.Accept]"], unfollowed := true, recurses := true, plainKeys := false, apart := false }
def AcceptorOnceSaid : Prop := acceptorOnceRow.holds Try.pinned (OpenSpec.ofChange acceptorOnceSpec)

/-- ITS FALSE NEIGHBOUR: 'it returns false'. Refute it at one input. -/
def acceptorOnceWrong : ChangeSpec := { name := "acceptorOnce", fn := fun _ => fun
  | [d1, d2, d3] => { results := [.lit (.bool false)], args := [d1, d2, d3] }
  | _ => none }
def AcceptorOnceWrongFalsely : Prop := acceptorOnceRow.holds Try.pinned (OpenSpec.ofChange acceptorOnceWrong)

/- THE SECOND FORM. 'bulk': how many values and letters a reading holds, each counted each time it is reached (what is shared counts as often as it is met; a slice's spare places count too). A statement '..UptoSaid' is the law's where the arguments, and the package variables that the reading takes, are together of bulk at most 1048576: NARROWER than '..Said'. Prove '..Said' where nothing that the law and all that it calls make is longer than what came in: it says more and counts as full. Else prove '..UptoSaid'. A law counts once. -/
mutual
def uptoBulk {H : Type} : DataW H → Nat
  | .lit (.string bytes) => bytes.length + 1
  | .lit _ => 1
  | .nil => 1
  | .ptr d => uptoBulk d + 1
  | .slice elems spare => uptoBulkAll elems + uptoBulkAll spare + 1
  | .agg parts => uptoBulkAll parts + 1
  | .iface _ d => uptoBulk d + 1
  | .map entries => uptoBulkEntries entries + 1
  | .held _ => 1
def uptoBulkAll {H : Type} : List (DataW H) → Nat
  | [] => 0
  | d :: r => uptoBulk d + uptoBulkAll r
def uptoBulkEntries {H : Type} : List (Lit × DataW H) → Nat
  | [] => 0
  | x :: r => uptoBulkEntry x + uptoBulkEntries r
def uptoBulkEntry {H : Type} : Lit × DataW H → Nat
  | (.string bytes, d) => bytes.length + uptoBulk d + 1
  | (_, d) => uptoBulk d + 1
 end
def uptoSmall : (H : Type) → List (DataW H) → Bool := fun _ ds => decide (uptoBulkAll ds ≤ 1048576)
def OpenSpec.upto (s : _root_.Go.ChangeSpec) : _root_.Go.OpenSpec := { _root_.Go.OpenSpec.ofChange s with cond := some uptoSmall }

/-- 'consistorylaw21.AcceptorMay', WHERE WHAT IT READS IS OF BULK AT MOST 1048576: true; the input reads as it did. -/
def acceptorMayUptoRow : OpenClaim := { program := "ytjblhgpbkfmkoaa", sum := "94dd9b1b41cf13eadbe509e8c83a3433c8c4c04b2d0c5664be40c0ba2526843b", func := "consistory/consistorylaw21.AcceptorMay", spec := "acceptorMay", plainKeys := false, apart := false, narrowed := true }
def AcceptorMayUptoSaid : Prop := acceptorMayUptoRow.holds Try.pinned (OpenSpec.upto acceptorMaySpec)

/-- 'consistorylaw22.LearnerMay', WHERE WHAT IT READS IS OF BULK AT MOST 1048576: true; the input reads as it did. -/
def learnerMayUptoRow : OpenClaim := { program := "ytjblhgpbkfmkoaa", sum := "94dd9b1b41cf13eadbe509e8c83a3433c8c4c04b2d0c5664be40c0ba2526843b", func := "consistory/consistorylaw22.LearnerMay", spec := "learnerMay", inPlace := ["slices.overlaps[consistory/api.Accept]"], unfollowed := true, recurses := true, plainKeys := false, apart := false, narrowed := true }
def LearnerMayUptoSaid : Prop := learnerMayUptoRow.holds Try.pinned (OpenSpec.upto learnerMaySpec)

/-- 'consistorylaw21.AcceptorLoads', WHERE WHAT IT READS IS OF BULK AT MOST 1048576: true; the input reads as it did. -/
def acceptorLoadsUptoRow : OpenClaim := { program := "ytjblhgpbkfmkoaa", sum := "94dd9b1b41cf13eadbe509e8c83a3433c8c4c04b2d0c5664be40c0ba2526843b", func := "consistory/consistorylaw21.AcceptorLoads", spec := "acceptorLoads", plainKeys := false, apart := false, narrowed := true }
def AcceptorLoadsUptoSaid : Prop := acceptorLoadsUptoRow.holds Try.pinned (OpenSpec.upto acceptorLoadsSpec)

/-- 'consistorylaw22.LearnerTurns', WHERE WHAT IT READS IS OF BULK AT MOST 1048576: true; the input reads as it did. -/
def learnerTurnsUptoRow : OpenClaim := { program := "ytjblhgpbkfmkoaa", sum := "94dd9b1b41cf13eadbe509e8c83a3433c8c4c04b2d0c5664be40c0ba2526843b", func := "consistory/consistorylaw22.LearnerTurns", spec := "learnerTurns", inPlace := ["slices.overlaps[consistory/api.Accept]"], unfollowed := true, recurses := true, plainKeys := false, apart := false, narrowed := true }
def LearnerTurnsUptoSaid : Prop := learnerTurnsUptoRow.holds Try.pinned (OpenSpec.upto learnerTurnsSpec)

/-- 'consistorylaw22.LearnerLearns', WHERE WHAT IT READS IS OF BULK AT MOST 1048576: true; the input reads as it did. -/
def learnerLearnsUptoRow : OpenClaim := { program := "ytjblhgpbkfmkoaa", sum := "94dd9b1b41cf13eadbe509e8c83a3433c8c4c04b2d0c5664be40c0ba2526843b", func := "consistory/consistorylaw22.LearnerLearns", spec := "learnerLearns", inPlace := ["slices.overlaps[consistory/api.Accept]"], unfollowed := true, recurses := true, plainKeys := false, apart := false, narrowed := true }
def LearnerLearnsUptoSaid : Prop := learnerLearnsUptoRow.holds Try.pinned (OpenSpec.upto learnerLearnsSpec)

/-- 'consistorylaw22.LearnerStays', WHERE WHAT IT READS IS OF BULK AT MOST 1048576: true; the input reads as it did. -/
def learnerStaysUptoRow : OpenClaim := { program := "ytjblhgpbkfmkoaa", sum := "94dd9b1b41cf13eadbe509e8c83a3433c8c4c04b2d0c5664be40c0ba2526843b", func := "consistory/consistorylaw22.LearnerStays", spec := "learnerStays", inPlace := ["slices.overlaps[consistory/api.Accept]"], unfollowed := true, recurses := true, plainKeys := false, apart := false, narrowed := true }
def LearnerStaysUptoSaid : Prop := learnerStaysUptoRow.holds Try.pinned (OpenSpec.upto learnerStaysSpec)

/-- 'consistorylaw21.AcceptorTurns', WHERE WHAT IT READS IS OF BULK AT MOST 1048576: true; the input reads as it did. -/
def acceptorTurnsUptoRow : OpenClaim := { program := "ytjblhgpbkfmkoaa", sum := "94dd9b1b41cf13eadbe509e8c83a3433c8c4c04b2d0c5664be40c0ba2526843b", func := "consistory/consistorylaw21.AcceptorTurns", spec := "acceptorTurns", inPlace := ["slices.overlaps[consistory/api.Accept]"], unfollowed := true, recurses := true, plainKeys := false, apart := false, narrowed := true }
def AcceptorTurnsUptoSaid : Prop := acceptorTurnsUptoRow.holds Try.pinned (OpenSpec.upto acceptorTurnsSpec)

/-- 'consistorylaw21.AcceptorOnce', WHERE WHAT IT READS IS OF BULK AT MOST 1048576: true; the input reads as it did. -/
def acceptorOnceUptoRow : OpenClaim := { program := "ytjblhgpbkfmkoaa", sum := "94dd9b1b41cf13eadbe509e8c83a3433c8c4c04b2d0c5664be40c0ba2526843b", func := "consistory/consistorylaw21.AcceptorOnce", spec := "acceptorOnce", inPlace := ["slices.overlaps[consistory/api.Accept]"], unfollowed := true, recurses := true, plainKeys := false, apart := false, narrowed := true }
def AcceptorOnceUptoSaid : Prop := acceptorOnceUptoRow.holds Try.pinned (OpenSpec.upto acceptorOnceSpec)

end Rows
end Go.Proofs.Ytjblhgpbkfmkoaa
