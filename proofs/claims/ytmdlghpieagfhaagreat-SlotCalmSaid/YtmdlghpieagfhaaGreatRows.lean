/-
  No cell of these rows narrows 'for every input' (looked for: loops, veiled, ifaces, maps, wideKeys, modest, calm, conditions, laid).
  DERIVED. THE GIVEN ROWS OF THIS SEAT. 5 by the template 'for every input the law returns true; each argument reads behind the call as it read before'; 0 by the template 'total and deterministic' (their statements: YtmdlghpieagfhaaGreatTotals.lean).
  GIVEN WITH THE SEED: the statements are not yours to turn. If you find one false, say at which input.
  Laid BY PROGRAM, IN A SANDBOX (cutbox-rows.mjs): the forced cells as the released guide's own fill.sh prints them over the translation 3b6f5806ee0dde3e… (all of the seat's roots in one cut). By AI agents, Wed Nov 11 2026. No macro, syntax, notation, axiom, sorry.
-/
import Derived.Test.YtmdlghpieagfhaaGreatChecked
import GoSem.Claim
import GoSem.ClaimJoined
import GoSem.ClaimMapViews
import Derived.JoinedTies
import Derived.KernelRfl
namespace Go.Proofs.YtmdlghpieagfhaaGreat
/- THE CELL 'sum', in the pinned program and in every row, IS THE sha256 OF THE DUMP (.gsa) THAT YtmdlghpieagfhaaGreatProg.lean LOADS. Nothing in Lean hashes anything: it is a label: what it is worth is what the hold of that sum in a sandbox is worth. -/
noncomputable def Tryz.pinned : Pinned := { name := "ytmdlghpieagfhaagreat", sum := "3b6f5806ee0dde3e7245ae2db9b5cf3c9977281ab316bbaf8560bf4ce723bba1", checked := Tryz.checked }
namespace Rows
def none {H : Type} : Left H := { results := [], args := [] }

/-- 'consistorylaw23.SlotNodes': WHATEVER THE INPUT: true; the input reads as it did. -/
def slotNodesSpec : ChangeSpec := { name := "slotNodes", fn := fun _ => fun
  | [d1, d2, d3] => { results := [.lit (.bool true)], args := [d1, d2, d3] }
  | _ => none }
def slotNodesRow : OpenClaim := { program := "ytmdlghpieagfhaagreat", sum := "3b6f5806ee0dde3e7245ae2db9b5cf3c9977281ab316bbaf8560bf4ce723bba1", func := "consistory/consistorylaw23.SlotNodes", spec := "slotNodes", inPlace := ["slices.overlaps[consistory/api.Accept]", "slices.overlaps[consistory/api.Report]"], unfollowed := true, recurses := true, plainKeys := false, apart := false }
def SlotNodesSaid : Prop := slotNodesRow.holds Tryz.pinned (OpenSpec.ofChange slotNodesSpec)

/-- ITS FALSE NEIGHBOUR: 'it returns false'. Refute it at one input. -/
def slotNodesWrong : ChangeSpec := { name := "slotNodes", fn := fun _ => fun
  | [d1, d2, d3] => { results := [.lit (.bool false)], args := [d1, d2, d3] }
  | _ => none }
def SlotNodesWrongFalsely : Prop := slotNodesRow.holds Tryz.pinned (OpenSpec.ofChange slotNodesWrong)

/-- 'consistorylaw23.SlotFast': WHATEVER THE INPUT: true; the input reads as it did. -/
def slotFastSpec : ChangeSpec := { name := "slotFast", fn := fun _ => fun
  | [d1, d2, d3] => { results := [.lit (.bool true)], args := [d1, d2, d3] }
  | _ => none }
def slotFastRow : OpenClaim := { program := "ytmdlghpieagfhaagreat", sum := "3b6f5806ee0dde3e7245ae2db9b5cf3c9977281ab316bbaf8560bf4ce723bba1", func := "consistory/consistorylaw23.SlotFast", spec := "slotFast", inPlace := ["slices.overlaps[consistory/api.Accept]", "slices.overlaps[consistory/api.Report]"], unfollowed := true, recurses := true, plainKeys := false, apart := false }
def SlotFastSaid : Prop := slotFastRow.holds Tryz.pinned (OpenSpec.ofChange slotFastSpec)

/-- ITS FALSE NEIGHBOUR: 'it returns false'. Refute it at one input. -/
def slotFastWrong : ChangeSpec := { name := "slotFast", fn := fun _ => fun
  | [d1, d2, d3] => { results := [.lit (.bool false)], args := [d1, d2, d3] }
  | _ => none }
def SlotFastWrongFalsely : Prop := slotFastRow.holds Tryz.pinned (OpenSpec.ofChange slotFastWrong)

/-- 'consistorylaw23.SlotBad': WHATEVER THE INPUT: true; the input reads as it did. -/
def slotBadSpec : ChangeSpec := { name := "slotBad", fn := fun _ => fun
  | [d1, d2] => { results := [.lit (.bool true)], args := [d1, d2] }
  | _ => none }
def slotBadRow : OpenClaim := { program := "ytmdlghpieagfhaagreat", sum := "3b6f5806ee0dde3e7245ae2db9b5cf3c9977281ab316bbaf8560bf4ce723bba1", func := "consistory/consistorylaw23.SlotBad", spec := "slotBad", inPlace := ["slices.overlaps[consistory/api.Accept]", "slices.overlaps[consistory/api.Report]"], unfollowed := true, recurses := true, plainKeys := false, apart := false }
def SlotBadSaid : Prop := slotBadRow.holds Tryz.pinned (OpenSpec.ofChange slotBadSpec)

/-- ITS FALSE NEIGHBOUR: 'it returns false'. Refute it at one input. -/
def slotBadWrong : ChangeSpec := { name := "slotBad", fn := fun _ => fun
  | [d1, d2] => { results := [.lit (.bool false)], args := [d1, d2] }
  | _ => none }
def SlotBadWrongFalsely : Prop := slotBadRow.holds Tryz.pinned (OpenSpec.ofChange slotBadWrong)

/-- 'consistorylaw23.SlotAgree': WHATEVER THE INPUT: true; the input reads as it did. -/
def slotAgreeSpec : ChangeSpec := { name := "slotAgree", fn := fun _ => fun
  | [d1, d2] => { results := [.lit (.bool true)], args := [d1, d2] }
  | _ => none }
def slotAgreeRow : OpenClaim := { program := "ytmdlghpieagfhaagreat", sum := "3b6f5806ee0dde3e7245ae2db9b5cf3c9977281ab316bbaf8560bf4ce723bba1", func := "consistory/consistorylaw23.SlotAgree", spec := "slotAgree", inPlace := ["slices.overlaps[consistory/api.Accept]", "slices.overlaps[consistory/api.Report]"], unfollowed := true, recurses := true, plainKeys := false, apart := false }
def SlotAgreeSaid : Prop := slotAgreeRow.holds Tryz.pinned (OpenSpec.ofChange slotAgreeSpec)

/-- ITS FALSE NEIGHBOUR: 'it returns false'. Refute it at one input. -/
def slotAgreeWrong : ChangeSpec := { name := "slotAgree", fn := fun _ => fun
  | [d1, d2] => { results := [.lit (.bool false)], args := [d1, d2] }
  | _ => none }
def SlotAgreeWrongFalsely : Prop := slotAgreeRow.holds Tryz.pinned (OpenSpec.ofChange slotAgreeWrong)

/-- 'consistorylaw23.SlotCalm': WHATEVER THE INPUT: true; the input reads as it did. -/
def slotCalmSpec : ChangeSpec := { name := "slotCalm", fn := fun _ => fun
  | [d1, d2] => { results := [.lit (.bool true)], args := [d1, d2] }
  | _ => none }
def slotCalmRow : OpenClaim := { program := "ytmdlghpieagfhaagreat", sum := "3b6f5806ee0dde3e7245ae2db9b5cf3c9977281ab316bbaf8560bf4ce723bba1", func := "consistory/consistorylaw23.SlotCalm", spec := "slotCalm", inPlace := ["slices.overlaps[consistory/api.Accept]", "slices.overlaps[consistory/api.Report]"], unfollowed := true, recurses := true, plainKeys := false, apart := false }
def SlotCalmSaid : Prop := slotCalmRow.holds Tryz.pinned (OpenSpec.ofChange slotCalmSpec)

/-- ITS FALSE NEIGHBOUR: 'it returns false'. Refute it at one input. -/
def slotCalmWrong : ChangeSpec := { name := "slotCalm", fn := fun _ => fun
  | [d1, d2] => { results := [.lit (.bool false)], args := [d1, d2] }
  | _ => none }
def SlotCalmWrongFalsely : Prop := slotCalmRow.holds Tryz.pinned (OpenSpec.ofChange slotCalmWrong)

/- THE SECOND FORM. 'bulk': how many values and letters a reading holds, each counted each time it is reached (what is shared counts as often as it is met; a slice's spare places count too). A statement '..UptoSaid' is the law's where the arguments, and the package variables that the reading takes, are together of bulk at most 1048576: NARROWER than '..Said'. Prove '..Said' where nothing that the law and all that it calls make is longer than what came in: it says more and counts as full. Else prove '..UptoSaid'. A law counts once. -/
mutual
def uptoBulk {H : Type} : DataW H → Nat
  | .lit (.string bytes) => bytes.length + 1
  | .lit _ => 1
  | .nil => 1
  | .ptr d => uptoBulk d + 1
  | .slice elems spare => uptoBulkAll elems + uptoBulkAll spare + 1
  | .agg parts => uptoBulkAll parts + 1
  | .iface _ d => uptoBulk d + 1
  | .map entries => uptoBulkEntries entries + 1
  | .held _ => 1
def uptoBulkAll {H : Type} : List (DataW H) → Nat
  | [] => 0
  | d :: r => uptoBulk d + uptoBulkAll r
def uptoBulkEntries {H : Type} : List (Lit × DataW H) → Nat
  | [] => 0
  | x :: r => uptoBulkEntry x + uptoBulkEntries r
def uptoBulkEntry {H : Type} : Lit × DataW H → Nat
  | (.string bytes, d) => bytes.length + uptoBulk d + 1
  | (_, d) => uptoBulk d + 1
 end
def uptoSmall : (H : Type) → List (DataW H) → Bool := fun _ ds => decide (uptoBulkAll ds ≤ 1048576)
def OpenSpec.upto (s : _root_.Go.ChangeSpec) : _root_.Go.OpenSpec := { _root_.Go.OpenSpec.ofChange s with cond := some uptoSmall }

/-- 'consistorylaw23.SlotNodes', WHERE WHAT IT READS IS OF BULK AT MOST 1048576: true; the input reads as it did. -/
def slotNodesUptoRow : OpenClaim := { program := "ytmdlghpieagfhaagreat", sum := "3b6f5806ee0dde3e7245ae2db9b5cf3c9977281ab316bbaf8560bf4ce723bba1", func := "consistory/consistorylaw23.SlotNodes", spec := "slotNodes", inPlace := ["slices.overlaps[consistory/api.Accept]", "slices.overlaps[consistory/api.Report]"], unfollowed := true, recurses := true, plainKeys := false, apart := false, narrowed := true }
def SlotNodesUptoSaid : Prop := slotNodesUptoRow.holds Tryz.pinned (OpenSpec.upto slotNodesSpec)

/-- 'consistorylaw23.SlotFast', WHERE WHAT IT READS IS OF BULK AT MOST 1048576: true; the input reads as it did. -/
def slotFastUptoRow : OpenClaim := { program := "ytmdlghpieagfhaagreat", sum := "3b6f5806ee0dde3e7245ae2db9b5cf3c9977281ab316bbaf8560bf4ce723bba1", func := "consistory/consistorylaw23.SlotFast", spec := "slotFast", inPlace := ["slices.overlaps[consistory/api.Accept]", "slices.overlaps[consistory/api.Report]"], unfollowed := true, recurses := true, plainKeys := false, apart := false, narrowed := true }
def SlotFastUptoSaid : Prop := slotFastUptoRow.holds Tryz.pinned (OpenSpec.upto slotFastSpec)

/-- 'consistorylaw23.SlotBad', WHERE WHAT IT READS IS OF BULK AT MOST 1048576: true; the input reads as it did. -/
def slotBadUptoRow : OpenClaim := { program := "ytmdlghpieagfhaagreat", sum := "3b6f5806ee0dde3e7245ae2db9b5cf3c9977281ab316bbaf8560bf4ce723bba1", func := "consistory/consistorylaw23.SlotBad", spec := "slotBad", inPlace := ["slices.overlaps[consistory/api.Accept]", "slices.overlaps[consistory/api.Report]"], unfollowed := true, recurses := true, plainKeys := false, apart := false, narrowed := true }
def SlotBadUptoSaid : Prop := slotBadUptoRow.holds Tryz.pinned (OpenSpec.upto slotBadSpec)

/-- 'consistorylaw23.SlotAgree', WHERE WHAT IT READS IS OF BULK AT MOST 1048576: true; the input reads as it did. -/
def slotAgreeUptoRow : OpenClaim := { program := "ytmdlghpieagfhaagreat", sum := "3b6f5806ee0dde3e7245ae2db9b5cf3c9977281ab316bbaf8560bf4ce723bba1", func := "consistory/consistorylaw23.SlotAgree", spec := "slotAgree", inPlace := ["slices.overlaps[consistory/api.Accept]", "slices.overlaps[consistory/api.Report]"], unfollowed := true, recurses := true, plainKeys := false, apart := false, narrowed := true }
def SlotAgreeUptoSaid : Prop := slotAgreeUptoRow.holds Tryz.pinned (OpenSpec.upto slotAgreeSpec)

/-- 'consistorylaw23.SlotCalm', WHERE WHAT IT READS IS OF BULK AT MOST 1048576: true; the input reads as it did. -/
def slotCalmUptoRow : OpenClaim := { program := "ytmdlghpieagfhaagreat", sum := "3b6f5806ee0dde3e7245ae2db9b5cf3c9977281ab316bbaf8560bf4ce723bba1", func := "consistory/consistorylaw23.SlotCalm", spec := "slotCalm", inPlace := ["slices.overlaps[consistory/api.Accept]", "slices.overlaps[consistory/api.Report]"], unfollowed := true, recurses := true, plainKeys := false, apart := false, narrowed := true }
def SlotCalmUptoSaid : Prop := slotCalmUptoRow.holds Tryz.pinned (OpenSpec.upto slotCalmSpec)

end Rows
end Go.Proofs.YtmdlghpieagfhaaGreat
