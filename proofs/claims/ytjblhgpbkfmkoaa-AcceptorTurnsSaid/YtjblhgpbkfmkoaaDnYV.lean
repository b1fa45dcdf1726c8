import Derived.Test.YtjblhgpbkfmkoaaDnYT
import Derived.Test.YtjblhgpbkfmkoaaDnD
/-
  The functions, with a bound on their rounds. Conditions: none.
-/
open Go Dn
set_option linter.unusedVariables false
set_option linter.unusedSimpArgs false
set_option maxRecDepth 100000
namespace Dn.S
def cSizeSizePair (fuel : Nat) (sA : SizeSize) : Option (Nat × Nat) :=
 some (FloatKind.nearest .f64 sA.F, FloatKind.nearest .f64 sA.T)
theorem leSizeSizePair (fuel : Nat) (sA : SizeSize) : Le (cSizeSizePair fuel sA) (tSizeSizePair sA) := by
  unfold cSizeSizePair tSizeSizePair
  repeat' (first | with_reducible exact Le.rfl' _ | refine Le.bd ?_ fun _ => ?_ | refine Le.ite ?_ ?_ | refine Le.ix fun _ => ?_ | refine Le.loop fun _ => ?_ | refine Le.delP (fun _ => ?_) _ | refine Le.delC (fun _ _ => ?_) _ _ | refine Le.sum (fun _ => ?_) (fun _ => ?_) | exact Le.rfl' _ | intro _)
def cSizeSizeOf (fuel : Nat) (sA : SizeSize) (times : Nat × Nat) : Option Int :=
 bd ((cSizeSizePair fuel) sA) fun rA =>
 bd (FloatKind.f64.format.mul rA.1 times.1) fun f =>
 bd (FloatKind.f64.format.mul rA.2 times.2) fun f1 =>
 bd (FloatKind.f64.format.add f f1) fun f2 =>
 bd ((FloatKind.decode .f64 f2).toInt .zero) fun n =>
 if IntKind.min .i64 ≤ n ∧ n ≤ IntKind.max .i64 then
 some (IntKind.wrap .i64 (n + 1))
 else none
theorem leSizeSizeOf (fuel : Nat) (sA : SizeSize) (times : Nat × Nat) : Le (cSizeSizeOf fuel sA times) (tSizeSizeOf sA times) := by
  unfold cSizeSizeOf tSizeSizeOf
  repeat' (first | with_reducible exact Le.rfl' _ | with_reducible apply leSizeSizePair | refine Le.bd ?_ fun _ => ?_ | refine Le.ite ?_ ?_ | refine Le.ix fun _ => ?_ | refine Le.loop fun _ => ?_ | refine Le.delP (fun _ => ?_) _ | refine Le.delC (fun _ _ => ?_) _ _ | refine Le.sum (fun _ => ?_) (fun _ => ?_) | exact Le.rfl' _ | intro _)
def cSizeN (fuel : Nat) (sA : SizeSize) : Option Int :=
 bd ((cSizeSizeOf fuel) sA (4613937818241073152, 4611686018427387904)) fun rA =>
 some rA
theorem leSizeN (fuel : Nat) (sA : SizeSize) : Le (cSizeN fuel sA) (tSizeN sA) := by
  unfold cSizeN tSizeN
  repeat' (first | with_reducible exact Le.rfl' _ | with_reducible apply leSizeSizeOf | refine Le.bd ?_ fun _ => ?_ | refine Le.ite ?_ ?_ | refine Le.ix fun _ => ?_ | refine Le.loop fun _ => ?_ | refine Le.delP (fun _ => ?_) _ | refine Le.delC (fun _ _ => ?_) _ _ | refine Le.sum (fun _ => ?_) (fun _ => ?_) | exact Le.rfl' _ | intro _)
def cSizeRight (fuel : Nat) (sA : SizeSize) : Option Bool :=
 bd (
   if (1 : Int) ≤ sA.F then
   if sA.F ≤ 5 then
   if (0 : Int) ≤ sA.T then
   some (decide (sA.T ≤ sA.F))
   else
   some false
   else
   some false
   else
   some false : Option Bool) fun w =>
 some w
theorem leSizeRight (fuel : Nat) (sA : SizeSize) : Le (cSizeRight fuel sA) (tSizeRight sA) := by
  unfold cSizeRight tSizeRight
  repeat' (first | with_reducible exact Le.rfl' _ | refine Le.bd ?_ fun _ => ?_ | refine Le.ite ?_ ?_ | refine Le.ix fun _ => ?_ | refine Le.loop fun _ => ?_ | refine Le.delP (fun _ => ?_) _ | refine Le.delC (fun _ _ => ?_) _ _ | refine Le.sum (fun _ => ?_) (fun _ => ?_) | exact Le.rfl' _ | intro _)
def cAcceptorNew (fuel : Nat) (sA : SizeSize) (me : Int) : Option (AcceptorAcceptor × Int) :=
 bd (
   bd ((cSizeRight fuel) sA) fun rA =>
   if !rA then
   some true
   else
   if me < 0 then
   some true
   else
   bd ((cSizeN fuel) sA) fun rA1 =>
   some (decide (rA1 ≤ me)) : Option Bool) fun w =>
 if w then
 some ((⟨(⟨0, 0⟩ : SizeSize), 0, 0, false, 0, ([] : List UInt8), ([] : List ApiAccept), (⟨([] : List ApiAccept)⟩ : TallyTally)⟩ : AcceptorAcceptor), 1)
 else
 some ((⟨sA, me, 0, false, 0, ([] : List UInt8), ([] : List ApiAccept), (⟨([] : List ApiAccept)⟩ : TallyTally)⟩ : AcceptorAcceptor), 0)
theorem leAcceptorNew (fuel : Nat) (sA : SizeSize) (me : Int) : Le (cAcceptorNew fuel sA me) (tAcceptorNew sA me) := by
  unfold cAcceptorNew tAcceptorNew
  repeat' (first | with_reducible exact Le.rfl' _ | with_reducible apply leSizeN | with_reducible apply leSizeRight | refine Le.bd ?_ fun _ => ?_ | refine Le.ite ?_ ?_ | refine Le.ix fun _ => ?_ | refine Le.loop fun _ => ?_ | refine Le.delP (fun _ => ?_) _ | refine Le.delC (fun _ _ => ?_) _ _ | refine Le.sum (fun _ => ?_) (fun _ => ?_) | exact Le.rfl' _ | intro _)
def cAcceptorTell (fuel : Nat) (a : AcceptorAcceptor) : Option ApiReport :=
 some (⟨a.Me, a.View, a.Has, a.At, a.Value, a.Proof⟩ : ApiReport)
theorem leAcceptorTell (fuel : Nat) (a : AcceptorAcceptor) : Le (cAcceptorTell fuel a) (tAcceptorTell a) := by
  unfold cAcceptorTell tAcceptorTell
  repeat' (first | with_reducible exact Le.rfl' _ | refine Le.bd ?_ fun _ => ?_ | refine Le.ite ?_ ?_ | refine Le.ix fun _ => ?_ | refine Le.loop fun _ => ?_ | refine Le.delP (fun _ => ?_) _ | refine Le.delC (fun _ _ => ?_) _ _ | refine Le.sum (fun _ => ?_) (fun _ => ?_) | exact Le.rfl' _ | intro _)
def cAcceptorEnter (fuel : Nat) (a : AcceptorAcceptor) (view : Int) : Option (AcceptorAcceptor × ApiReport × Bool) :=
 bd (
   if view ≤ a.View then
   some true
   else
   some (decide ((100000 : Int) < view)) : Option Bool) fun w =>
 if w then
 some (a, (⟨0, 0, false, 0, ([] : List UInt8), ([] : List ApiAccept)⟩ : ApiReport), false)
 else
 bd ((cAcceptorTell fuel) (⟨a.S, a.Me, view, a.Has, a.At, a.Value, a.Proof, (⟨([] : List ApiAccept)⟩ : TallyTally)⟩ : AcceptorAcceptor)) fun rA =>
 some ((⟨a.S, a.Me, view, a.Has, a.At, a.Value, a.Proof, (⟨([] : List ApiAccept)⟩ : TallyTally)⟩ : AcceptorAcceptor), rA, true)
theorem leAcceptorEnter (fuel : Nat) (a : AcceptorAcceptor) (view : Int) : Le (cAcceptorEnter fuel a view) (tAcceptorEnter a view) := by
  unfold cAcceptorEnter tAcceptorEnter
  repeat' (first | with_reducible exact Le.rfl' _ | with_reducible apply leAcceptorTell | refine Le.bd ?_ fun _ => ?_ | refine Le.ite ?_ ?_ | refine Le.ix fun _ => ?_ | refine Le.loop fun _ => ?_ | refine Le.delP (fun _ => ?_) _ | refine Le.delC (fun _ _ => ?_) _ _ | refine Le.sum (fun _ => ?_) (fun _ => ?_) | exact Le.rfl' _ | intro _)
def cSizeMost (fuel : Nat) (sA : SizeSize) : Option Int :=
 bd ((cSizeSizeOf fuel) sA (4611686018427387904, 4611686018427387904)) fun rA =>
 some rA
theorem leSizeMost (fuel : Nat) (sA : SizeSize) : Le (cSizeMost fuel sA) (tSizeMost sA) := by
  unfold cSizeMost tSizeMost
  repeat' (first | with_reducible exact Le.rfl' _ | with_reducible apply leSizeSizeOf | refine Le.bd ?_ fun _ => ?_ | refine Le.ite ?_ ?_ | refine Le.ix fun _ => ?_ | refine Le.loop fun _ => ?_ | refine Le.delP (fun _ => ?_) _ | refine Le.delC (fun _ _ => ?_) _ _ | refine Le.sum (fun _ => ?_) (fun _ => ?_) | exact Le.rfl' _ | intro _)
def cSizeProof (fuel : Nat) (sA : SizeSize) : Option Int :=
 bd ((cSizeSizeOf fuel) sA (4611686018427387904, 4607182418800017408)) fun rA =>
 some rA
theorem leSizeProof (fuel : Nat) (sA : SizeSize) : Le (cSizeProof fuel sA) (tSizeProof sA) := by
  unfold cSizeProof tSizeProof
  repeat' (first | with_reducible exact Le.rfl' _ | with_reducible apply leSizeSizeOf | refine Le.bd ?_ fun _ => ?_ | refine Le.ite ?_ ?_ | refine Le.ix fun _ => ?_ | refine Le.loop fun _ => ?_ | refine Le.delP (fun _ => ?_) _ | refine Le.delC (fun _ _ => ?_) _ _ | refine Le.sum (fun _ => ?_) (fun _ => ?_) | exact Le.rfl' _ | intro _)
def cTallyMay (fuel : Nat) (a : ApiAccept) : Option Bool :=
 bd (
   if (0 : Int) ≤ a.By then
   if (0 : Int) ≤ a.View then
   if a.View ≤ 100000 then
   some (decide ((a.Value.length : Int) ≤ 6000))
   else
   some false
   else
   some false
   else
   some false : Option Bool) fun w =>
 some w
theorem leTallyMay (fuel : Nat) (a : ApiAccept) : Le (cTallyMay fuel a) (tTallyMay a) := by
  unfold cTallyMay tTallyMay
  repeat' (first | with_reducible exact Le.rfl' _ | refine Le.bd ?_ fun _ => ?_ | refine Le.ite ?_ ?_ | refine Le.ix fun _ => ?_ | refine Le.loop fun _ => ?_ | refine Le.delP (fun _ => ?_) _ | refine Le.delC (fun _ _ => ?_) _ _ | refine Le.sum (fun _ => ?_) (fun _ => ?_) | exact Le.rfl' _ | intro _)
def cTallyRightL1 (fuel : Nat) (t : TallyTally) (st : Int) : Option (Int ⊕ (Unit ⊕ Bool)) :=
 if st < (t.L.length : Int) then
 ix t.L st fun y =>
 bd (
   bd ((cTallyMay fuel) y) fun rA =>
   if !rA then
   some true
   else
   if (0 : Int) < st then
   ix t.L (IntKind.wrap .i64 (st - 1)) fun y1 =>
   some (decide (y.By ≤ y1.By))
   else
   some false : Option Bool) fun w1 =>
 if w1 then
 some (.inr (.inr false))
 else
 some (.inl (IntKind.wrap .i64 (st + 1)))
 else
 some (.inr (.inl ()))
theorem leTallyRightL1 (fuel : Nat) (t : TallyTally) (st : Int) : Le (cTallyRightL1 fuel t st) (tTallyRightL1 t st) := by
  unfold cTallyRightL1 tTallyRightL1
  repeat' (first | with_reducible exact Le.rfl' _ | with_reducible apply leTallyMay | refine Le.bd ?_ fun _ => ?_ | refine Le.ite ?_ ?_ | refine Le.ix fun _ => ?_ | refine Le.loop fun _ => ?_ | refine Le.delP (fun _ => ?_) _ | refine Le.delC (fun _ _ => ?_) _ _ | refine Le.sum (fun _ => ?_) (fun _ => ?_) | exact Le.rfl' _ | intro _)
def cTallyRight (fuel : Nat) (t : TallyTally) : Option Bool :=
 bd (LoopC fuel ((cTallyRightL1 fuel) t) 0) fun w =>
 match w with
 | .inl p1 =>
   some true
 | .inr p2 =>
   some p2
theorem leTallyRight (fuel : Nat) (t : TallyTally) : Le (cTallyRight fuel t) (tTallyRight t) := by
  unfold cTallyRight tTallyRight
  repeat' (first | with_reducible exact Le.rfl' _ | with_reducible apply leTallyRightL1 | refine Le.bd ?_ fun _ => ?_ | refine Le.ite ?_ ?_ | refine Le.ix fun _ => ?_ | refine Le.loop fun _ => ?_ | refine Le.delP (fun _ => ?_) _ | refine Le.delC (fun _ _ => ?_) _ _ | refine Le.sum (fun _ => ?_) (fun _ => ?_) | exact Le.rfl' _ | intro _)
def cTallyVotersL1 (fuel : Nat) (t : TallyTally) (view : Int) (value : List UInt8) (st : (List ApiAccept) × Int) : Option (((List ApiAccept) × Int) ⊕ (List ApiAccept)) :=
 if st.2 < (t.L.length : Int) then
 ix t.L st.2 fun y =>
 bd (
   if y.View = view then
   some (decide (y.Value = value))
   else
   some false : Option Bool) fun w1 =>
 bd (
   if w1 then
   if (st.1.length + ([y] : List ApiAccept).length) * 32 ≤ 2 ^ 46 then
   some (st.1 ++ ([y] : List ApiAccept))
   else none
   else
   some st.1 : Option (List ApiAccept)) fun w2 =>
 some (.inl (w2, IntKind.wrap .i64 (st.2 + 1)))
 else
 some (.inr st.1)
theorem leTallyVotersL1 (fuel : Nat) (t : TallyTally) (view : Int) (value : List UInt8) (st : (List ApiAccept) × Int) : Le (cTallyVotersL1 fuel t view value st) (tTallyVotersL1 t view value st) := by
  unfold cTallyVotersL1 tTallyVotersL1
  repeat' (first | with_reducible exact Le.rfl' _ | refine Le.bd ?_ fun _ => ?_ | refine Le.ite ?_ ?_ | refine Le.ix fun _ => ?_ | refine Le.loop fun _ => ?_ | refine Le.delP (fun _ => ?_) _ | refine Le.delC (fun _ _ => ?_) _ _ | refine Le.sum (fun _ => ?_) (fun _ => ?_) | exact Le.rfl' _ | intro _)
def cTallyVoters (fuel : Nat) (t : TallyTally) (view : Int) (value : List UInt8) : Option (List ApiAccept) :=
 bd (LoopC fuel ((cTallyVotersL1 fuel) t view value) (([] : List ApiAccept), 0)) fun w =>
 some w
theorem leTallyVoters (fuel : Nat) (t : TallyTally) (view : Int) (value : List UInt8) : Le (cTallyVoters fuel t view value) (tTallyVoters t view value) := by
  unfold cTallyVoters tTallyVoters
  repeat' (first | with_reducible exact Le.rfl' _ | with_reducible apply leTallyVotersL1 | refine Le.bd ?_ fun _ => ?_ | refine Le.ite ?_ ?_ | refine Le.ix fun _ => ?_ | refine Le.loop fun _ => ?_ | refine Le.delP (fun _ => ?_) _ | refine Le.delC (fun _ _ => ?_) _ _ | refine Le.sum (fun _ => ?_) (fun _ => ?_) | exact Le.rfl' _ | intro _)
def cTallyCount (fuel : Nat) (t : TallyTally) (view : Int) (value : List UInt8) : Option Int :=
 bd ((cTallyVoters fuel) t view value) fun rA =>
 some (rA.length : Int)
theorem leTallyCount (fuel : Nat) (t : TallyTally) (view : Int) (value : List UInt8) : Le (cTallyCount fuel t view value) (tTallyCount t view value) := by
  unfold cTallyCount tTallyCount
  repeat' (first | with_reducible exact Le.rfl' _ | with_reducible apply leTallyVoters | refine Le.bd ?_ fun _ => ?_ | refine Le.ite ?_ ?_ | refine Le.ix fun _ => ?_ | refine Le.loop fun _ => ?_ | refine Le.delP (fun _ => ?_) _ | refine Le.delC (fun _ _ => ?_) _ _ | refine Le.sum (fun _ => ?_) (fun _ => ?_) | exact Le.rfl' _ | intro _)
def cProofRight (fuel : Nat) (sA : SizeSize) (p : List ApiAccept) : Option Bool :=
 bd (
   bd ((cSizeRight fuel) sA) fun rA =>
   if !rA then
   some true
   else
   bd ((cSizeProof fuel) sA) fun rA1 =>
   if !decide ((p.length : Int) = rA1) then
   some true
   else
   bd ((cTallyRight fuel) (⟨p⟩ : TallyTally)) fun rA2 =>
   some (!rA2) : Option Bool) fun w =>
 if w then
 some false
 else
 bd (
   ix p (IntKind.wrap .i64 ((p.length : Int) - 1)) fun y =>
   bd ((cSizeN fuel) sA) fun rA3 =>
   if y.By < rA3 then
   ix p 0 fun y1 =>
   ix p 0 fun y2 =>
   bd ((cTallyCount fuel) (⟨p⟩ : TallyTally) y1.View y2.Value) fun rA4 =>
   some (decide (rA4 = (p.length : Int)))
   else
   some false : Option Bool) fun w1 =>
 some w1
theorem leProofRight (fuel : Nat) (sA : SizeSize) (p : List ApiAccept) : Le (cProofRight fuel sA p) (tProofRight sA p) := by
  unfold cProofRight tProofRight
  repeat' (first | with_reducible exact Le.rfl' _ | with_reducible apply leSizeN | with_reducible apply leSizeRight | with_reducible apply leSizeProof | with_reducible apply leTallyRight | with_reducible apply leTallyCount | refine Le.bd ?_ fun _ => ?_ | refine Le.ite ?_ ?_ | refine Le.ix fun _ => ?_ | refine Le.loop fun _ => ?_ | refine Le.delP (fun _ => ?_) _ | refine Le.delC (fun _ _ => ?_) _ _ | refine Le.sum (fun _ => ?_) (fun _ => ?_) | exact Le.rfl' _ | intro _)
def cProofOf (fuel : Nat) (p : List ApiAccept) : Option (Int × (List UInt8) × Bool) :=
 if (p.length : Int) = 0 then
 some ((-1), ([] : List UInt8), false)
 else
 ix p 0 fun y =>
 ix p 0 fun y1 =>
 some (y.View, y1.Value, true)
theorem leProofOf (fuel : Nat) (p : List ApiAccept) : Le (cProofOf fuel p) (tProofOf p) := by
  unfold cProofOf tProofOf
  repeat' (first | with_reducible exact Le.rfl' _ | refine Le.bd ?_ fun _ => ?_ | refine Le.ite ?_ ?_ | refine Le.ix fun _ => ?_ | refine Le.loop fun _ => ?_ | refine Le.delP (fun _ => ?_) _ | refine Le.delC (fun _ _ => ?_) _ _ | refine Le.sum (fun _ => ?_) (fun _ => ?_) | exact Le.rfl' _ | intro _)
def cReportProved (fuel : Nat) (rA : ApiReport) : Option Int :=
 bd ((cProofOf fuel) rA.Proof) fun rA1 =>
 if !rA1.2.2 then
 some (-1)
 else
 some rA1.1
theorem leReportProved (fuel : Nat) (rA : ApiReport) : Le (cReportProved fuel rA) (tReportProved rA) := by
  unfold cReportProved tReportProved
  repeat' (first | with_reducible exact Le.rfl' _ | with_reducible apply leProofOf | refine Le.bd ?_ fun _ => ?_ | refine Le.ite ?_ ?_ | refine Le.ix fun _ => ?_ | refine Le.loop fun _ => ?_ | refine Le.delP (fun _ => ?_) _ | refine Le.delC (fun _ _ => ?_) _ _ | refine Le.sum (fun _ => ?_) (fun _ => ?_) | exact Le.rfl' _ | intro _)
def cReportMay (fuel : Nat) (a : SizeSize) (a1 : ApiReport) : Option Bool :=
 bd (
   bd ((cSizeRight fuel) a) fun rA =>
   if !rA then
   some true
   else
   if a1.By < 0 then
   some true
   else
   bd ((cSizeN fuel) a) fun rA1 =>
   if rA1 ≤ a1.By then
   some true
   else
   if a1.For < 1 then
   some true
   else
   some (decide ((100000 : Int) < a1.For)) : Option Bool) fun w =>
 if w then
 some false
 else
 bd (
   if !a1.Has then
   if !decide (a1.View = 0) then
   some true
   else
   some (!decide (a1.Value = ([] : List UInt8)))
   else
   some false : Option Bool) fun w1 =>
 if w1 then
 some false
 else
 bd (
   if a1.Has then
   if a1.View < 0 then
   some true
   else
   if a1.For ≤ a1.View then
   some true
   else
   some (decide ((6000 : Int) < (a1.Value.length : Int)))
   else
   some false : Option Bool) fun w2 =>
 if w2 then
 some false
 else
 bd (
   if (a1.Proof.length : Int) = 0 then
   some true
   else
   bd ((cProofRight fuel) a a1.Proof) fun rA2 =>
   if rA2 then
   bd ((cReportProved fuel) a1) fun rA3 =>
   some (decide (rA3 < a1.For))
   else
   some false : Option Bool) fun w3 =>
 some w3
theorem leReportMay (fuel : Nat) (a : SizeSize) (a1 : ApiReport) : Le (cReportMay fuel a a1) (tReportMay a a1) := by
  unfold cReportMay tReportMay
  repeat' (first | with_reducible exact Le.rfl' _ | with_reducible apply leSizeN | with_reducible apply leSizeRight | with_reducible apply leProofRight | with_reducible apply leReportProved | refine Le.bd ?_ fun _ => ?_ | refine Le.ite ?_ ?_ | refine Le.ix fun _ => ?_ | refine Le.loop fun _ => ?_ | refine Le.delP (fun _ => ?_) _ | refine Le.delC (fun _ _ => ?_) _ _ | refine Le.sum (fun _ => ?_) (fun _ => ?_) | exact Le.rfl' _ | intro _)
def cReportRightL1 (fuel : Nat) (sA : SizeSize) (view : Int) (lA : List ApiReport) (st : Int × Int) : Option ((Int × Int) ⊕ (Unit ⊕ Bool)) :=
 if st.2 < (lA.length : Int) then
 ix lA st.2 fun y =>
 bd (
   bd ((cReportMay fuel) sA y) fun rA2 =>
   if !rA2 then
   some true
   else
   if !decide (y.For = view) then
   some true
   else
   some (decide (y.By ≤ st.1)) : Option Bool) fun w2 =>
 if w2 then
 some (.inr (.inr false))
 else
 some (.inl (y.By, IntKind.wrap .i64 (st.2 + 1)))
 else
 some (.inr (.inl ()))
theorem leReportRightL1 (fuel : Nat) (sA : SizeSize) (view : Int) (lA : List ApiReport) (st : Int × Int) : Le (cReportRightL1 fuel sA view lA st) (tReportRightL1 sA view lA st) := by
  unfold cReportRightL1 tReportRightL1
  repeat' (first | with_reducible exact Le.rfl' _ | with_reducible apply leReportMay | refine Le.bd ?_ fun _ => ?_ | refine Le.ite ?_ ?_ | refine Le.ix fun _ => ?_ | refine Le.loop fun _ => ?_ | refine Le.delP (fun _ => ?_) _ | refine Le.delC (fun _ _ => ?_) _ _ | refine Le.sum (fun _ => ?_) (fun _ => ?_) | exact Le.rfl' _ | intro _)
def cReportRight (fuel : Nat) (sA : SizeSize) (view : Int) (lA : List ApiReport) : Option Bool :=
 bd (
   bd ((cSizeRight fuel) sA) fun rA =>
   if !rA then
   some true
   else
   bd ((cSizeMost fuel) sA) fun rA1 =>
   some (!decide ((lA.length : Int) = rA1)) : Option Bool) fun w =>
 if w then
 some false
 else
 bd (LoopC fuel ((cReportRightL1 fuel) sA view lA) ((-1), 0)) fun w1 =>
 match w1 with
 | .inl p1 =>
   some true
 | .inr p2 =>
   some p2
theorem leReportRight (fuel : Nat) (sA : SizeSize) (view : Int) (lA : List ApiReport) : Le (cReportRight fuel sA view lA) (tReportRight sA view lA) := by
  unfold cReportRight tReportRight
  repeat' (first | with_reducible exact Le.rfl' _ | with_reducible apply leSizeRight | with_reducible apply leSizeMost | with_reducible apply leReportRightL1 | refine Le.bd ?_ fun _ => ?_ | refine Le.ite ?_ ?_ | refine Le.ix fun _ => ?_ | refine Le.loop fun _ => ?_ | refine Le.delP (fun _ => ?_) _ | refine Le.delC (fun _ _ => ?_) _ _ | refine Le.sum (fun _ => ?_) (fun _ => ?_) | exact Le.rfl' _ | intro _)
def cSizeVouch (fuel : Nat) (sA : SizeSize) : Option Int :=
 bd ((cSizeSizeOf fuel) sA (4607182418800017408, 4607182418800017408)) fun rA =>
 some rA
theorem leSizeVouch (fuel : Nat) (sA : SizeSize) : Le (cSizeVouch fuel sA) (tSizeVouch sA) := by
  unfold cSizeVouch tSizeVouch
  repeat' (first | with_reducible exact Le.rfl' _ | with_reducible apply leSizeSizeOf | refine Le.bd ?_ fun _ => ?_ | refine Le.ite ?_ ?_ | refine Le.ix fun _ => ?_ | refine Le.loop fun _ => ?_ | refine Le.delP (fun _ => ?_) _ | refine Le.delC (fun _ _ => ?_) _ _ | refine Le.sum (fun _ => ?_) (fun _ => ?_) | exact Le.rfl' _ | intro _)
def cReportBindsL1 (fuel : Nat) (a1 : List ApiReport) (st : Int × (List UInt8) × Int) : Option ((Int × (List UInt8) × Int) ⊕ (Int × (List UInt8))) :=
 if st.2.2 < (a1.length : Int) then
 ix a1 st.2.2 fun y =>
 bd ((cReportProved fuel) y) fun rA =>
 bd (
   if st.1 < rA then
   ix y.Proof 0 fun y1 =>
   some (rA, y1.Value)
   else
   some (st.1, st.2.1) : Option (Int × (List UInt8))) fun w1 =>
 some (.inl (w1.1, w1.2, IntKind.wrap .i64 (st.2.2 + 1)))
 else
 some (.inr (st.1, st.2.1))
theorem leReportBindsL1 (fuel : Nat) (a1 : List ApiReport) (st : Int × (List UInt8) × Int) : Le (cReportBindsL1 fuel a1 st) (tReportBindsL1 a1 st) := by
  unfold cReportBindsL1 tReportBindsL1
  repeat' (first | with_reducible exact Le.rfl' _ | with_reducible apply leReportProved | refine Le.bd ?_ fun _ => ?_ | refine Le.ite ?_ ?_ | refine Le.ix fun _ => ?_ | refine Le.loop fun _ => ?_ | refine Le.delP (fun _ => ?_) _ | refine Le.delC (fun _ _ => ?_) _ _ | refine Le.sum (fun _ => ?_) (fun _ => ?_) | exact Le.rfl' _ | intro _)
def cReportBindsL2 (fuel : Nat) (a1 : List ApiReport) (w : Int × (List UInt8)) (st1 : (List MV) × Int) : Option (((List MV) × Int) ⊕ (List MV)) :=
 if st1.2 < (a1.length : Int) then
 ix a1 st1.2 fun y2 =>
 bd (
   if y2.Has then
   some (decide (w.1 < y2.View))
   else
   some false : Option Bool) fun w3 =>
 bd (
   if w3 then
   some (mset (ment st1.1 ([.s y2.Value] : List MV) (.i .i64 0)) (midx st1.1 ([.s y2.Value] : List MV)) (.i .i64 (IntKind.wrap .i64 ((mgetI st1.1 ([.s y2.Value] : List MV)) + 1))))
   else
   some st1.1 : Option (List MV)) fun w4 =>
 some (.inl (w4, IntKind.wrap .i64 (st1.2 + 1)))
 else
 some (.inr st1.1)
theorem leReportBindsL2 (fuel : Nat) (a1 : List ApiReport) (w : Int × (List UInt8)) (st1 : (List MV) × Int) : Le (cReportBindsL2 fuel a1 w st1) (tReportBindsL2 a1 w st1) := by
  unfold cReportBindsL2 tReportBindsL2
  repeat' (first | with_reducible exact Le.rfl' _ | refine Le.bd ?_ fun _ => ?_ | refine Le.ite ?_ ?_ | refine Le.ix fun _ => ?_ | refine Le.loop fun _ => ?_ | refine Le.delP (fun _ => ?_) _ | refine Le.delC (fun _ _ => ?_) _ _ | refine Le.sum (fun _ => ?_) (fun _ => ?_) | exact Le.rfl' _ | intro _)
def cReportBindsL3 (fuel : Nat) (a : SizeSize) (m29 : MV) : Option (Unit ⊕ (Unit ⊕ ((List UInt8) × Bool))) :=
 entT m29 fun key n =>
 bd ((cSizeVouch fuel) a) fun rA1 =>
 if rA1 ≤ n then
 some (.inr (.inr (key, true)))
 else
 some (.inl ())
theorem leReportBindsL3 (fuel : Nat) (a : SizeSize) (m29 : MV) : Le (cReportBindsL3 fuel a m29) (tReportBindsL3 a m29) := by
  unfold cReportBindsL3 tReportBindsL3
  repeat' (first | with_reducible exact Le.rfl' _ | with_reducible apply leSizeVouch | refine Le.bd ?_ fun _ => ?_ | refine Le.ite ?_ ?_ | refine Le.ix fun _ => ?_ | refine Le.loop fun _ => ?_ | refine Le.delP (fun _ => ?_) _ | refine Le.delC (fun _ _ => ?_) _ _ | refine Le.sum (fun _ => ?_) (fun _ => ?_) | exact Le.rfl' _ | intro _)
def cReportBinds (fuel : Nat) (a : SizeSize) (a1 : List ApiReport) : Option ((List UInt8) × Bool) :=
 bd (LoopC fuel ((cReportBindsL1 fuel) a1) ((-1), ([] : List UInt8), 0)) fun w =>
 bd (LoopC fuel ((cReportBindsL2 fuel) a1 w) (([] : List MV), 0)) fun w2 =>
 bd (RangeM ((cReportBindsL3 fuel) a) (
   some (.inl ())) w2) fun w5 =>
 match w5 with
 | .inl p5 =>
   some (w.2, decide (((-1) : Int) < w.1))
 | .inr p6 =>
   some (p6.1, p6.2)
theorem leReportBinds (fuel : Nat) (a : SizeSize) (a1 : List ApiReport) : Le (cReportBinds fuel a a1) (tReportBinds a a1) := by
  unfold cReportBinds tReportBinds
  repeat' (first | with_reducible exact Le.rfl' _ | with_reducible apply leReportBindsL1 | with_reducible apply leReportBindsL2 | with_reducible apply leReportBindsL3 | refine Le.bd ?_ fun _ => ?_ | refine Le.ite ?_ ?_ | refine Le.ix fun _ => ?_ | refine Le.loop fun _ => ?_ | refine Le.delP (fun _ => ?_) _ | refine Le.delC (fun _ _ => ?_) _ _ | refine Le.sum (fun _ => ?_) (fun _ => ?_) | exact Le.rfl' _ | intro _)
def cReportVouches (fuel : Nat) (sA : SizeSize) (view : Int) (lA : List ApiReport) (value : List UInt8) : Option Bool :=
 bd ((cReportRight fuel) sA view lA) fun rA =>
 if !rA then
 some false
 else
 bd ((cReportBinds fuel) sA lA) fun rA1 =>
 bd (
   if !rA1.2 then
   some true
   else
   some (decide (rA1.1 = value)) : Option Bool) fun w =>
 some w
theorem leReportVouches (fuel : Nat) (sA : SizeSize) (view : Int) (lA : List ApiReport) (value : List UInt8) : Le (cReportVouches fuel sA view lA value) (tReportVouches sA view lA value) := by
  unfold cReportVouches tReportVouches
  repeat' (first | with_reducible exact Le.rfl' _ | with_reducible apply leReportRight | with_reducible apply leReportBinds | refine Le.bd ?_ fun _ => ?_ | refine Le.ite ?_ ?_ | refine Le.ix fun _ => ?_ | refine Le.loop fun _ => ?_ | refine Le.delP (fun _ => ?_) _ | refine Le.delC (fun _ _ => ?_) _ _ | refine Le.sum (fun _ => ?_) (fun _ => ?_) | exact Le.rfl' _ | intro _)
def cAcceptorPropose (fuel : Nat) (a : AcceptorAcceptor) (view : Int) (value : List UInt8) (cert : List ApiReport) : Option (AcceptorAcceptor × ApiAccept × Bool) :=
 bd (
   if !decide (view = a.View) then
   some true
   else
   if a.Has then
   if a.At = view then
   some true
   else
   some (decide ((6000 : Int) < (value.length : Int)))
   else
   some (decide ((6000 : Int) < (value.length : Int))) : Option Bool) fun w =>
 if w then
 some (a, (⟨0, 0, ([] : List UInt8)⟩ : ApiAccept), false)
 else
 bd (
   if view = 0 then
   some (decide ((cert.length : Int) = 0))
   else
   some false : Option Bool) fun w1 =>
 bd (
   if w1 then
   some (.inr (0, 0, 0, 0, false, 0, ([] : List UInt8), ([] : List ApiAccept), ([] : List ApiAccept), 0, 0, ([] : List UInt8)))
   else
   bd ((cReportVouches fuel) a.S view cert value) fun rA =>
   if !rA then
   some (.inl (a.S.F, a.S.T, a.Me, a.View, a.Has, a.At, a.Value, a.Proof, a.Votes.L, 0, 0, ([] : List UInt8), false))
   else
   some (.inr (0, 0, 0, 0, false, 0, ([] : List UInt8), ([] : List ApiAccept), ([] : List ApiAccept), 0, 0, ([] : List UInt8))) : Option ((Int × Int × Int × Int × Bool × Int × (List UInt8) × (List ApiAccept) × (List ApiAccept) × Int × Int × (List UInt8) × Bool) ⊕ (Int × Int × Int × Int × Bool × Int × (List UInt8) × (List ApiAccept) × (List ApiAccept) × Int × Int × (List UInt8)))) fun w2 =>
 match w2 with
 | .inl p1 =>
   some ((⟨(⟨p1.1, p1.2.1⟩ : SizeSize), p1.2.2.1, p1.2.2.2.1, p1.2.2.2.2.1, p1.2.2.2.2.2.1, p1.2.2.2.2.2.2.1, p1.2.2.2.2.2.2.2.1, (⟨p1.2.2.2.2.2.2.2.2.1⟩ : TallyTally)⟩ : AcceptorAcceptor), (⟨p1.2.2.2.2.2.2.2.2.2.1, p1.2.2.2.2.2.2.2.2.2.2.1, p1.2.2.2.2.2.2.2.2.2.2.2.1⟩ : ApiAccept), p1.2.2.2.2.2.2.2.2.2.2.2.2)
 | .inr p2 =>
   some ((⟨a.S, a.Me, a.View, true, view, value, a.Proof, a.Votes⟩ : AcceptorAcceptor), (⟨a.Me, view, value⟩ : ApiAccept), true)
theorem leAcceptorPropose (fuel : Nat) (a : AcceptorAcceptor) (view : Int) (value : List UInt8) (cert : List ApiReport) : Le (cAcceptorPropose fuel a view value cert) (tAcceptorPropose a view value cert) := by
  unfold cAcceptorPropose tAcceptorPropose
  repeat' (first | with_reducible exact Le.rfl' _ | with_reducible apply leReportVouches | refine Le.bd ?_ fun _ => ?_ | refine Le.ite ?_ ?_ | refine Le.ix fun _ => ?_ | refine Le.loop fun _ => ?_ | refine Le.delP (fun _ => ?_) _ | refine Le.delC (fun _ _ => ?_) _ _ | refine Le.sum (fun _ => ?_) (fun _ => ?_) | exact Le.rfl' _ | intro _)
def cL21Alive (fuel : Nat) : Option Bool :=
 bd ((cAcceptorNew fuel) (⟨1, 0⟩ : SizeSize) 2) fun rA =>
 bd ((cAcceptorPropose fuel) rA.1 0 ([120] : List UInt8) ([] : List ApiReport)) fun rA1 =>
 bd ((cAcceptorPropose fuel) rA1.1 0 ([121] : List UInt8) ([] : List ApiReport)) fun rA2 =>
 bd ((cAcceptorEnter fuel) rA1.1 3) fun rA3 =>
 bd (
   if rA.2 = 0 then
   if rA1.2.2 then
   if !rA2.2.2 then
   if rA3.2.2 then
   if rA1.2.1.By = 2 then
   if rA1.2.1.Value = ([120] : List UInt8) then
   if rA3.1.View = 3 then
   if rA3.2.1.For = 3 then
   some (decide (rA3.2.1.Value = ([120] : List UInt8)))
   else
   some false
   else
   some false
   else
   some false
   else
   some false
   else
   some false
   else
   some false
   else
   some false
   else
   some false : Option Bool) fun w =>
 some w
theorem leL21Alive (fuel : Nat) : Le (cL21Alive fuel) (tL21Alive) := by
  unfold cL21Alive tL21Alive
  repeat' (first | with_reducible exact Le.rfl' _ | with_reducible apply leAcceptorNew | with_reducible apply leAcceptorEnter | with_reducible apply leAcceptorPropose | refine Le.bd ?_ fun _ => ?_ | refine Le.ite ?_ ?_ | refine Le.ix fun _ => ?_ | refine Le.loop fun _ => ?_ | refine Le.delP (fun _ => ?_) _ | refine Le.delC (fun _ _ => ?_) _ _ | refine Le.sum (fun _ => ?_) (fun _ => ?_) | exact Le.rfl' _ | intro _)
theorem evL21Alive : tL21Alive = some true := leL21Alive 200 _ (by decide +kernel)
end Dn.S
