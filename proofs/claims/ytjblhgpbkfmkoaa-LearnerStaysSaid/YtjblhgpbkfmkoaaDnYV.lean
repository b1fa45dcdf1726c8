import Derived.Test.YtjblhgpbkfmkoaaDnYT
import Derived.Test.YtjblhgpbkfmkoaaDnD
/-
  The functions, with a bound on their rounds. Conditions: none.
-/
open Go Dn
set_option linter.unusedVariables false
set_option linter.unusedSimpArgs false
set_option maxRecDepth 100000
namespace Dn.S
def cSizeSizePair (fuel : Nat) (sA : SizeSize) : Option (Nat × Nat) :=
 some (FloatKind.nearest .f64 sA.F, FloatKind.nearest .f64 sA.T)
theorem leSizeSizePair (fuel : Nat) (sA : SizeSize) : Le (cSizeSizePair fuel sA) (tSizeSizePair sA) := by
  unfold cSizeSizePair tSizeSizePair
  repeat' (first | exact Le.rfl' _ | refine Le.bd ?_ fun _ => ?_ | refine Le.ite ?_ ?_ | refine Le.ix fun _ => ?_ | refine Le.loop fun _ => ?_ | refine Le.sum (fun _ => ?_) (fun _ => ?_) | intro _)
def cSizeSizeOf (fuel : Nat) (sA : SizeSize) (times : Nat × Nat) : Option Int :=
 bd ((cSizeSizePair fuel) sA) fun rA =>
 bd (FloatKind.f64.format.mul rA.1 times.1) fun f =>
 bd (FloatKind.f64.format.mul rA.2 times.2) fun f1 =>
 bd (FloatKind.f64.format.add f f1) fun f2 =>
 bd ((FloatKind.decode .f64 f2).toInt .zero) fun n =>
 if IntKind.min .i64 ≤ n ∧ n ≤ IntKind.max .i64 then
 some (IntKind.wrap .i64 (n + 1))
 else none
theorem leSizeSizeOf (fuel : Nat) (sA : SizeSize) (times : Nat × Nat) : Le (cSizeSizeOf fuel sA times) (tSizeSizeOf sA times) := by
  unfold cSizeSizeOf tSizeSizeOf
  repeat' (first | exact Le.rfl' _ | apply leSizeSizePair | refine Le.bd ?_ fun _ => ?_ | refine Le.ite ?_ ?_ | refine Le.ix fun _ => ?_ | refine Le.loop fun _ => ?_ | refine Le.sum (fun _ => ?_) (fun _ => ?_) | intro _)
def cSizeN (fuel : Nat) (sA : SizeSize) : Option Int :=
 bd ((cSizeSizeOf fuel) sA (4613937818241073152, 4611686018427387904)) fun rA =>
 some rA
theorem leSizeN (fuel : Nat) (sA : SizeSize) : Le (cSizeN fuel sA) (tSizeN sA) := by
  unfold cSizeN tSizeN
  repeat' (first | exact Le.rfl' _ | apply leSizeSizeOf | refine Le.bd ?_ fun _ => ?_ | refine Le.ite ?_ ?_ | refine Le.ix fun _ => ?_ | refine Le.loop fun _ => ?_ | refine Le.sum (fun _ => ?_) (fun _ => ?_) | intro _)
def cSizeRight (fuel : Nat) (sA : SizeSize) : Option Bool :=
 bd (
   if (1 : Int) ≤ sA.F then
   if sA.F ≤ 5 then
   if (0 : Int) ≤ sA.T then
   some (decide (sA.T ≤ sA.F))
   else
   some false
   else
   some false
   else
   some false : Option Bool) fun w =>
 some w
theorem leSizeRight (fuel : Nat) (sA : SizeSize) : Le (cSizeRight fuel sA) (tSizeRight sA) := by
  unfold cSizeRight tSizeRight
  repeat' (first | exact Le.rfl' _ | refine Le.bd ?_ fun _ => ?_ | refine Le.ite ?_ ?_ | refine Le.ix fun _ => ?_ | refine Le.loop fun _ => ?_ | refine Le.sum (fun _ => ?_) (fun _ => ?_) | intro _)
def cAcceptorNew (fuel : Nat) (sA : SizeSize) (me : Int) : Option (AcceptorAcceptor × Int) :=
 bd (
   bd ((cSizeRight fuel) sA) fun rA =>
   if !rA then
   some true
   else
   if me < 0 then
   some true
   else
   bd ((cSizeN fuel) sA) fun rA1 =>
   some (decide (rA1 ≤ me)) : Option Bool) fun w =>
 if w then
 some ((⟨(⟨0, 0⟩ : SizeSize), 0, 0, false, 0, ([] : List UInt8), ([] : List ApiAccept), (⟨([] : List ApiAccept)⟩ : TallyTally)⟩ : AcceptorAcceptor), 1)
 else
 some ((⟨sA, me, 0, false, 0, ([] : List UInt8), ([] : List ApiAccept), (⟨([] : List ApiAccept)⟩ : TallyTally)⟩ : AcceptorAcceptor), 0)
theorem leAcceptorNew (fuel : Nat) (sA : SizeSize) (me : Int) : Le (cAcceptorNew fuel sA me) (tAcceptorNew sA me) := by
  unfold cAcceptorNew tAcceptorNew
  repeat' (first | exact Le.rfl' _ | apply leSizeN | apply leSizeRight | refine Le.bd ?_ fun _ => ?_ | refine Le.ite ?_ ?_ | refine Le.ix fun _ => ?_ | refine Le.loop fun _ => ?_ | refine Le.sum (fun _ => ?_) (fun _ => ?_) | intro _)
def cAcceptorTell (fuel : Nat) (a : AcceptorAcceptor) : Option ApiReport :=
 some (⟨a.Me, a.View, a.Has, a.At, a.Value, a.Proof⟩ : ApiReport)
theorem leAcceptorTell (fuel : Nat) (a : AcceptorAcceptor) : Le (cAcceptorTell fuel a) (tAcceptorTell a) := by
  unfold cAcceptorTell tAcceptorTell
  repeat' (first | exact Le.rfl' _ | refine Le.bd ?_ fun _ => ?_ | refine Le.ite ?_ ?_ | refine Le.ix fun _ => ?_ | refine Le.loop fun _ => ?_ | refine Le.sum (fun _ => ?_) (fun _ => ?_) | intro _)
def cAcceptorEnter (fuel : Nat) (a : AcceptorAcceptor) (view : Int) : Option (AcceptorAcceptor × ApiReport × Bool) :=
 bd (
   if view ≤ a.View then
   some true
   else
   some (decide ((100000 : Int) < view)) : Option Bool) fun w =>
 if w then
 some (a, (⟨0, 0, false, 0, ([] : List UInt8), ([] : List ApiAccept)⟩ : ApiReport), false)
 else
 bd ((cAcceptorTell fuel) (⟨a.S, a.Me, view, a.Has, a.At, a.Value, a.Proof, (⟨([] : List ApiAccept)⟩ : TallyTally)⟩ : AcceptorAcceptor)) fun rA =>
 some ((⟨a.S, a.Me, view, a.Has, a.At, a.Value, a.Proof, (⟨([] : List ApiAccept)⟩ : TallyTally)⟩ : AcceptorAcceptor), rA, true)
theorem leAcceptorEnter (fuel : Nat) (a : AcceptorAcceptor) (view : Int) : Le (cAcceptorEnter fuel a view) (tAcceptorEnter a view) := by
  unfold cAcceptorEnter tAcceptorEnter
  repeat' (first | exact Le.rfl' _ | apply leAcceptorTell | refine Le.bd ?_ fun _ => ?_ | refine Le.ite ?_ ?_ | refine Le.ix fun _ => ?_ | refine Le.loop fun _ => ?_ | refine Le.sum (fun _ => ?_) (fun _ => ?_) | intro _)
def cSizeMost (fuel : Nat) (sA : SizeSize) : Option Int :=
 bd ((cSizeSizeOf fuel) sA (4611686018427387904, 4611686018427387904)) fun rA =>
 some rA
theorem leSizeMost (fuel : Nat) (sA : SizeSize) : Le (cSizeMost fuel sA) (tSizeMost sA) := by
  unfold cSizeMost tSizeMost
  repeat' (first | exact Le.rfl' _ | apply leSizeSizeOf | refine Le.bd ?_ fun _ => ?_ | refine Le.ite ?_ ?_ | refine Le.ix fun _ => ?_ | refine Le.loop fun _ => ?_ | refine Le.sum (fun _ => ?_) (fun _ => ?_) | intro _)
def cSizeProof (fuel : Nat) (sA : SizeSize) : Option Int :=
 bd ((cSizeSizeOf fuel) sA (4611686018427387904, 4607182418800017408)) fun rA =>
 some rA
theorem leSizeProof (fuel : Nat) (sA : SizeSize) : Le (cSizeProof fuel sA) (tSizeProof sA) := by
  unfold cSizeProof tSizeProof
  repeat' (first | exact Le.rfl' _ | apply leSizeSizeOf | refine Le.bd ?_ fun _ => ?_ | refine Le.ite ?_ ?_ | refine Le.ix fun _ => ?_ | refine Le.loop fun _ => ?_ | refine Le.sum (fun _ => ?_) (fun _ => ?_) | intro _)
def cTallyMay (fuel : Nat) (a : ApiAccept) : Option Bool :=
 bd (
   if (0 : Int) ≤ a.By then
   if (0 : Int) ≤ a.View then
   if a.View ≤ 100000 then
   some (decide ((a.Value.length : Int) ≤ 6000))
   else
   some false
   else
   some false
   else
   some false : Option Bool) fun w =>
 some w
theorem leTallyMay (fuel : Nat) (a : ApiAccept) : Le (cTallyMay fuel a) (tTallyMay a) := by
  unfold cTallyMay tTallyMay
  repeat' (first | exact Le.rfl' _ | refine Le.bd ?_ fun _ => ?_ | refine Le.ite ?_ ?_ | refine Le.ix fun _ => ?_ | refine Le.loop fun _ => ?_ | refine Le.sum (fun _ => ?_) (fun _ => ?_) | intro _)
def cTallyRightL1 (fuel : Nat) (t : TallyTally) (st : Int) : Option (Int ⊕ (Unit ⊕ Bool)) :=
 if st < (t.L.length : Int) then
 ix t.L st fun y =>
 bd (
   bd ((cTallyMay fuel) y) fun rA =>
   if !rA then
   some true
   else
   if (0 : Int) < st then
   ix t.L (IntKind.wrap .i64 (st - 1)) fun y1 =>
   some (decide (y.By ≤ y1.By))
   else
   some false : Option Bool) fun w1 =>
 if w1 then
 some (.inr (.inr false))
 else
 some (.inl (IntKind.wrap .i64 (st + 1)))
 else
 some (.inr (.inl ()))
theorem leTallyRightL1 (fuel : Nat) (t : TallyTally) (st : Int) : Le (cTallyRightL1 fuel t st) (tTallyRightL1 t st) := by
  unfold cTallyRightL1 tTallyRightL1
  repeat' (first | exact Le.rfl' _ | apply leTallyMay | refine Le.bd ?_ fun _ => ?_ | refine Le.ite ?_ ?_ | refine Le.ix fun _ => ?_ | refine Le.loop fun _ => ?_ | refine Le.sum (fun _ => ?_) (fun _ => ?_) | intro _)
def cTallyRight (fuel : Nat) (t : TallyTally) : Option Bool :=
 bd (LoopC fuel ((cTallyRightL1 fuel) t) 0) fun w =>
 match w with
 | .inl p1 =>
   some true
 | .inr p2 =>
   some p2
theorem leTallyRight (fuel : Nat) (t : TallyTally) : Le (cTallyRight fuel t) (tTallyRight t) := by
  unfold cTallyRight tTallyRight
  repeat' (first | exact Le.rfl' _ | apply leTallyRightL1 | refine Le.bd ?_ fun _ => ?_ | refine Le.ite ?_ ?_ | refine Le.ix fun _ => ?_ | refine Le.loop fun _ => ?_ | refine Le.sum (fun _ => ?_) (fun _ => ?_) | intro _)
def cTallyVotersL1 (fuel : Nat) (t : TallyTally) (view : Int) (value : List UInt8) (st : (List ApiAccept) × Int) : Option (((List ApiAccept) × Int) ⊕ (List ApiAccept)) :=
 if st.2 < (t.L.length : Int) then
 ix t.L st.2 fun y =>
 bd (
   if y.View = view then
   some (decide (y.Value = value))
   else
   some false : Option Bool) fun w1 =>
 bd (
   if w1 then
   if (st.1.length + ([y] : List ApiAccept).length) * 32 ≤ 2 ^ 46 then
   some (st.1 ++ ([y] : List ApiAccept))
   else none
   else
   some st.1 : Option (List ApiAccept)) fun w2 =>
 some (.inl (w2, IntKind.wrap .i64 (st.2 + 1)))
 else
 some (.inr st.1)
theorem leTallyVotersL1 (fuel : Nat) (t : TallyTally) (view : Int) (value : List UInt8) (st : (List ApiAccept) × Int) : Le (cTallyVotersL1 fuel t view value st) (tTallyVotersL1 t view value st) := by
  unfold cTallyVotersL1 tTallyVotersL1
  repeat' (first | exact Le.rfl' _ | refine Le.bd ?_ fun _ => ?_ | refine Le.ite ?_ ?_ | refine Le.ix fun _ => ?_ | refine Le.loop fun _ => ?_ | refine Le.sum (fun _ => ?_) (fun _ => ?_) | intro _)
def cTallyVoters (fuel : Nat) (t : TallyTally) (view : Int) (value : List UInt8) : Option (List ApiAccept) :=
 bd (LoopC fuel ((cTallyVotersL1 fuel) t view value) (([] : List ApiAccept), 0)) fun w =>
 some w
theorem leTallyVoters (fuel : Nat) (t : TallyTally) (view : Int) (value : List UInt8) : Le (cTallyVoters fuel t view value) (tTallyVoters t view value) := by
  unfold cTallyVoters tTallyVoters
  repeat' (first | exact Le.rfl' _ | apply leTallyVotersL1 | refine Le.bd ?_ fun _ => ?_ | refine Le.ite ?_ ?_ | refine Le.ix fun _ => ?_ | refine Le.loop fun _ => ?_ | refine Le.sum (fun _ => ?_) (fun _ => ?_) | intro _)
def cTallyCount (fuel : Nat) (t : TallyTally) (view : Int) (value : List UInt8) : Option Int :=
 bd ((cTallyVoters fuel) t view value) fun rA =>
 some (rA.length : Int)
theorem leTallyCount (fuel : Nat) (t : TallyTally) (view : Int) (value : List UInt8) : Le (cTallyCount fuel t view value) (tTallyCount t view value) := by
  unfold cTallyCount tTallyCount
  repeat' (first | exact Le.rfl' _ | apply leTallyVoters | refine Le.bd ?_ fun _ => ?_ | refine Le.ite ?_ ?_ | refine Le.ix fun _ => ?_ | refine Le.loop fun _ => ?_ | refine Le.sum (fun _ => ?_) (fun _ => ?_) | intro _)
def cProofRight (fuel : Nat) (sA : SizeSize) (p : List ApiAccept) : Option Bool :=
 bd (
   bd ((cSizeRight fuel) sA) fun rA =>
   if !rA then
   some true
   else
   bd ((cSizeProof fuel) sA) fun rA1 =>
   if !decide ((p.length : Int) = rA1) then
   some true
   else
   bd ((cTallyRight fuel) (⟨p⟩ : TallyTally)) fun rA2 =>
   some (!rA2) : Option Bool) fun w =>
 if w then
 some false
 else
 bd (
   ix p (IntKind.wrap .i64 ((p.length : Int) - 1)) fun y =>
   bd ((cSizeN fuel) sA) fun rA3 =>
   if y.By < rA3 then
   ix p 0 fun y1 =>
   ix p 0 fun y2 =>
   bd ((cTallyCount fuel) (⟨p⟩ : TallyTally) y1.View y2.Value) fun rA4 =>
   some (decide (rA4 = (p.length : Int)))
   else
   some false : Option Bool) fun w1 =>
 some w1
theorem leProofRight (fuel : Nat) (sA : SizeSize) (p : List ApiAccept) : Le (cProofRight fuel sA p) (tProofRight sA p) := by
  unfold cProofRight tProofRight
  repeat' (first | exact Le.rfl' _ | apply leSizeN | apply leSizeRight | apply leSizeProof | apply leTallyRight | apply leTallyCount | refine Le.bd ?_ fun _ => ?_ | refine Le.ite ?_ ?_ | refine Le.ix fun _ => ?_ | refine Le.loop fun _ => ?_ | refine Le.sum (fun _ => ?_) (fun _ => ?_) | intro _)
def cProofOf (fuel : Nat) (p : List ApiAccept) : Option (Int × (List UInt8) × Bool) :=
 if (p.length : Int) = 0 then
 some ((-1), ([] : List UInt8), false)
 else
 ix p 0 fun y =>
 ix p 0 fun y1 =>
 some (y.View, y1.Value, true)
theorem leProofOf (fuel : Nat) (p : List ApiAccept) : Le (cProofOf fuel p) (tProofOf p) := by
  unfold cProofOf tProofOf
  repeat' (first | exact Le.rfl' _ | refine Le.bd ?_ fun _ => ?_ | refine Le.ite ?_ ?_ | refine Le.ix fun _ => ?_ | refine Le.loop fun _ => ?_ | refine Le.sum (fun _ => ?_) (fun _ => ?_) | intro _)
def cReportProved (fuel : Nat) (rA : ApiReport) : Option Int :=
 bd ((cProofOf fuel) rA.Proof) fun rA1 =>
 if !rA1.2.2 then
 some (-1)
 else
 some rA1.1
theorem leReportProved (fuel : Nat) (rA : ApiReport) : Le (cReportProved fuel rA) (tReportProved rA) := by
  unfold cReportProved tReportProved
  repeat' (first | exact Le.rfl' _ | apply leProofOf | refine Le.bd ?_ fun _ => ?_ | refine Le.ite ?_ ?_ | refine Le.ix fun _ => ?_ | refine Le.loop fun _ => ?_ | refine Le.sum (fun _ => ?_) (fun _ => ?_) | intro _)
def cReportMay (fuel : Nat) (a : SizeSize) (a1 : ApiReport) : Option Bool :=
 bd (
   bd ((cSizeRight fuel) a) fun rA =>
   if !rA then
   some true
   else
   if a1.By < 0 then
   some true
   else
   bd ((cSizeN fuel) a) fun rA1 =>
   if rA1 ≤ a1.By then
   some true
   else
   if a1.For < 1 then
   some true
   else
   some (decide ((100000 : Int) < a1.For)) : Option Bool) fun w =>
 if w then
 some false
 else
 bd (
   if !a1.Has then
   if !decide (a1.View = 0) then
   some true
   else
   some (!decide (a1.Value = ([] : List UInt8)))
   else
   some false : Option Bool) fun w1 =>
 if w1 then
 some false
 else
 bd (
   if a1.Has then
   if a1.View < 0 then
   some true
   else
   if a1.For ≤ a1.View then
   some true
   else
   some (decide ((6000 : Int) < (a1.Value.length : Int)))
   else
   some false : Option Bool) fun w2 =>
 if w2 then
 some false
 else
 bd (
   if (a1.Proof.length : Int) = 0 then
   some true
   else
   bd ((cProofRight fuel) a a1.Proof) fun rA2 =>
   if rA2 then
   bd ((cReportProved fuel) a1) fun rA3 =>
   some (decide (rA3 < a1.For))
   else
   some false : Option Bool) fun w3 =>
 some w3
theorem leReportMay (fuel : Nat) (a : SizeSize) (a1 : ApiReport) : Le (cReportMay fuel a a1) (tReportMay a a1) := by
  unfold cReportMay tReportMay
  repeat' (first | exact Le.rfl' _ | apply leSizeN | apply leSizeRight | apply leProofRight | apply leReportProved | refine Le.bd ?_ fun _ => ?_ | refine Le.ite ?_ ?_ | refine Le.ix fun _ => ?_ | refine Le.loop fun _ => ?_ | refine Le.sum (fun _ => ?_) (fun _ => ?_) | intro _)
def cReportRightL1 (fuel : Nat) (sA : SizeSize) (view : Int) (lA : List ApiReport) (st : Int × Int) : Option ((Int × Int) ⊕ (Unit ⊕ Bool)) :=
 if st.2 < (lA.length : Int) then
 ix lA st.2 fun y =>
 bd (
   bd ((cReportMay fuel) sA y) fun rA2 =>
   if !rA2 then
   some true
   else
   if !decide (y.For = view) then
   some true
   else
   some (decide (y.By ≤ st.1)) : Option Bool) fun w2 =>
 if w2 then
 some (.inr (.inr false))
 else
 some (.inl (y.By, IntKind.wrap .i64 (st.2 + 1)))
 else
 some (.inr (.inl ()))
theorem leReportRightL1 (fuel : Nat) (sA : SizeSize) (view : Int) (lA : List ApiReport) (st : Int × Int) : Le (cReportRightL1 fuel sA view lA st) (tReportRightL1 sA view lA st) := by
  unfold cReportRightL1 tReportRightL1
  repeat' (first | exact Le.rfl' _ | apply leReportMay | refine Le.bd ?_ fun _ => ?_ | refine Le.ite ?_ ?_ | refine Le.ix fun _ => ?_ | refine Le.loop fun _ => ?_ | refine Le.sum (fun _ => ?_) (fun _ => ?_) | intro _)
def cReportRight (fuel : Nat) (sA : SizeSize) (view : Int) (lA : List ApiReport) : Option Bool :=
 bd (
   bd ((cSizeRight fuel) sA) fun rA =>
   if !rA then
   some true
   else
   bd ((cSizeMost fuel) sA) fun rA1 =>
   some (!decide ((lA.length : Int) = rA1)) : Option Bool) fun w =>
 if w then
 some false
 else
 bd (LoopC fuel ((cReportRightL1 fuel) sA view lA) ((-1), 0)) fun w1 =>
 match w1 with
 | .inl p1 =>
   some true
 | .inr p2 =>
   some p2
theorem leReportRight (fuel : Nat) (sA : SizeSize) (view : Int) (lA : List ApiReport) : Le (cReportRight fuel sA view lA) (tReportRight sA view lA) := by
  unfold cReportRight tReportRight
  repeat' (first | exact Le.rfl' _ | apply leSizeRight | apply leSizeMost | apply leReportRightL1 | refine Le.bd ?_ fun _ => ?_ | refine Le.ite ?_ ?_ | refine Le.ix fun _ => ?_ | refine Le.loop fun _ => ?_ | refine Le.sum (fun _ => ?_) (fun _ => ?_) | intro _)
def cSizeVouch (fuel : Nat) (sA : SizeSize) : Option Int :=
 bd ((cSizeSizeOf fuel) sA (4607182418800017408, 4607182418800017408)) fun rA =>
 some rA
theorem leSizeVouch (fuel : Nat) (sA : SizeSize) : Le (cSizeVouch fuel sA) (tSizeVouch sA) := by
  unfold cSizeVouch tSizeVouch
  repeat' (first | exact Le.rfl' _ | apply leSizeSizeOf | refine Le.bd ?_ fun _ => ?_ | refine Le.ite ?_ ?_ | refine Le.ix fun _ => ?_ | refine Le.loop fun _ => ?_ | refine Le.sum (fun _ => ?_) (fun _ => ?_) | intro _)
def cReportBindsL1 (fuel : Nat) (a1 : List ApiReport) (st : Int × (List UInt8) × Int) : Option ((Int × (List UInt8) × Int) ⊕ (Int × (List UInt8))) :=
 if st.2.2 < (a1.length : Int) then
 ix a1 st.2.2 fun y =>
 bd ((cReportProved fuel) y) fun rA =>
 bd (
   if st.1 < rA then
   ix y.Proof 0 fun y1 =>
   some (rA, y1.Value)
   else
   some (st.1, st.2.1) : Option (Int × (List UInt8))) fun w1 =>
 some (.inl (w1.1, w1.2, IntKind.wrap .i64 (st.2.2 + 1)))
 else
 some (.inr (st.1, st.2.1))
theorem leReportBindsL1 (fuel : Nat) (a1 : List ApiReport) (st : Int × (List UInt8) × Int) : Le (cReportBindsL1 fuel a1 st) (tReportBindsL1 a1 st) := by
  unfold cReportBindsL1 tReportBindsL1
  repeat' (first | exact Le.rfl' _ | apply leReportProved | refine Le.bd ?_ fun _ => ?_ | refine Le.ite ?_ ?_ | refine Le.ix fun _ => ?_ | refine Le.loop fun _ => ?_ | refine Le.sum (fun _ => ?_) (fun _ => ?_) | intro _)
def cReportBindsL2 (fuel : Nat) (a1 : List ApiReport) (w : Int × (List UInt8)) (st1 : (List MV) × Int) : Option (((List MV) × Int) ⊕ (List MV)) :=
 if st1.2 < (a1.length : Int) then
 ix a1 st1.2 fun y2 =>
 bd (
   if y2.Has then
   some (decide (w.1 < y2.View))
   else
   some false : Option Bool) fun w3 =>
 bd (
   if w3 then
   some (mset (ment st1.1 ([.s y2.Value] : List MV) (.i .i64 0)) (midx st1.1 ([.s y2.Value] : List MV)) (.i .i64 (IntKind.wrap .i64 ((mgetI st1.1 ([.s y2.Value] : List MV)) + 1))))
   else
   some st1.1 : Option (List MV)) fun w4 =>
 some (.inl (w4, IntKind.wrap .i64 (st1.2 + 1)))
 else
 some (.inr st1.1)
theorem leReportBindsL2 (fuel : Nat) (a1 : List ApiReport) (w : Int × (List UInt8)) (st1 : (List MV) × Int) : Le (cReportBindsL2 fuel a1 w st1) (tReportBindsL2 a1 w st1) := by
  unfold cReportBindsL2 tReportBindsL2
  repeat' (first | exact Le.rfl' _ | refine Le.bd ?_ fun _ => ?_ | refine Le.ite ?_ ?_ | refine Le.ix fun _ => ?_ | refine Le.loop fun _ => ?_ | refine Le.sum (fun _ => ?_) (fun _ => ?_) | intro _)
def cReportBinds (fuel : Nat) (a : SizeSize) (a1 : List ApiReport) : Option ((List UInt8) × Bool) :=
 bd (LoopC fuel ((cReportBindsL1 fuel) a1) ((-1), ([] : List UInt8), 0)) fun w =>
 bd (LoopC fuel ((cReportBindsL2 fuel) a1 w) (([] : List MV), 0)) fun w2 =>
 none
theorem leReportBinds (fuel : Nat) (a : SizeSize) (a1 : List ApiReport) : Le (cReportBinds fuel a a1) (tReportBinds a a1) := by
  unfold cReportBinds tReportBinds
  repeat' (first | exact Le.rfl' _ | apply leReportBindsL1 | apply leReportBindsL2 | refine Le.bd ?_ fun _ => ?_ | refine Le.ite ?_ ?_ | refine Le.ix fun _ => ?_ | refine Le.loop fun _ => ?_ | refine Le.sum (fun _ => ?_) (fun _ => ?_) | intro _)
def cReportVouches (fuel : Nat) (sA : SizeSize) (view : Int) (lA : List ApiReport) (value : List UInt8) : Option Bool :=
 bd ((cReportRight fuel) sA view lA) fun rA =>
 if !rA then
 some false
 else
 bd ((cReportBinds fuel) sA lA) fun rA1 =>
 bd (
   if !rA1.2 then
   some true
   else
   some (decide (rA1.1 = value)) : Option Bool) fun w =>
 some w
theorem leReportVouches (fuel : Nat) (sA : SizeSize) (view : Int) (lA : List ApiReport) (value : List UInt8) : Le (cReportVouches fuel sA view lA value) (tReportVouches sA view lA value) := by
  unfold cReportVouches tReportVouches
  repeat' (first | exact Le.rfl' _ | apply leReportRight | apply leReportBinds | refine Le.bd ?_ fun _ => ?_ | refine Le.ite ?_ ?_ | refine Le.ix fun _ => ?_ | refine Le.loop fun _ => ?_ | refine Le.sum (fun _ => ?_) (fun _ => ?_) | intro _)
def cAcceptorPropose (fuel : Nat) (a : AcceptorAcceptor) (view : Int) (value : List UInt8) (cert : List ApiReport) : Option (AcceptorAcceptor × ApiAccept × Bool) :=
 bd (
   if !decide (view = a.View) then
   some true
   else
   if a.Has then
   if a.At = view then
   some true
   else
   some (decide ((6000 : Int) < (value.length : Int)))
   else
   some (decide ((6000 : Int) < (value.length : Int))) : Option Bool) fun w =>
 if w then
 some (a, (⟨0, 0, ([] : List UInt8)⟩ : ApiAccept), false)
 else
 bd (
   if view = 0 then
   some (decide ((cert.length : Int) = 0))
   else
   some false : Option Bool) fun w1 =>
 bd (
   if w1 then
   some (.inr (0, 0, 0, 0, false, 0, ([] : List UInt8), ([] : List ApiAccept), ([] : List ApiAccept), 0, 0, ([] : List UInt8)))
   else
   bd ((cReportVouches fuel) a.S view cert value) fun rA =>
   if !rA then
   some (.inl (a.S.F, a.S.T, a.Me, a.View, a.Has, a.At, a.Value, a.Proof, a.Votes.L, 0, 0, ([] : List UInt8), false))
   else
   some (.inr (0, 0, 0, 0, false, 0, ([] : List UInt8), ([] : List ApiAccept), ([] : List ApiAccept), 0, 0, ([] : List UInt8))) : Option ((Int × Int × Int × Int × Bool × Int × (List UInt8) × (List ApiAccept) × (List ApiAccept) × Int × Int × (List UInt8) × Bool) ⊕ (Int × Int × Int × Int × Bool × Int × (List UInt8) × (List ApiAccept) × (List ApiAccept) × Int × Int × (List UInt8)))) fun w2 =>
 match w2 with
 | .inl p1 =>
   some ((⟨(⟨p1.1, p1.2.1⟩ : SizeSize), p1.2.2.1, p1.2.2.2.1, p1.2.2.2.2.1, p1.2.2.2.2.2.1, p1.2.2.2.2.2.2.1, p1.2.2.2.2.2.2.2.1, (⟨p1.2.2.2.2.2.2.2.2.1⟩ : TallyTally)⟩ : AcceptorAcceptor), (⟨p1.2.2.2.2.2.2.2.2.2.1, p1.2.2.2.2.2.2.2.2.2.2.1, p1.2.2.2.2.2.2.2.2.2.2.2.1⟩ : ApiAccept), p1.2.2.2.2.2.2.2.2.2.2.2.2)
 | .inr p2 =>
   some ((⟨a.S, a.Me, a.View, true, view, value, a.Proof, a.Votes⟩ : AcceptorAcceptor), (⟨a.Me, view, value⟩ : ApiAccept), true)
theorem leAcceptorPropose (fuel : Nat) (a : AcceptorAcceptor) (view : Int) (value : List UInt8) (cert : List ApiReport) : Le (cAcceptorPropose fuel a view value cert) (tAcceptorPropose a view value cert) := by
  unfold cAcceptorPropose tAcceptorPropose
  repeat' (first | exact Le.rfl' _ | apply leReportVouches | refine Le.bd ?_ fun _ => ?_ | refine Le.ite ?_ ?_ | refine Le.ix fun _ => ?_ | refine Le.loop fun _ => ?_ | refine Le.sum (fun _ => ?_) (fun _ => ?_) | intro _)
def cL21Alive (fuel : Nat) : Option Bool :=
 bd ((cAcceptorNew fuel) (⟨1, 0⟩ : SizeSize) 2) fun rA =>
 bd ((cAcceptorPropose fuel) rA.1 0 ([120] : List UInt8) ([] : List ApiReport)) fun rA1 =>
 bd ((cAcceptorPropose fuel) rA1.1 0 ([121] : List UInt8) ([] : List ApiReport)) fun rA2 =>
 bd ((cAcceptorEnter fuel) rA1.1 3) fun rA3 =>
 bd (
   if rA.2 = 0 then
   if rA1.2.2 then
   if !rA2.2.2 then
   if rA3.2.2 then
   if rA1.2.1.By = 2 then
   if rA1.2.1.Value = ([120] : List UInt8) then
   if rA3.1.View = 3 then
   if rA3.2.1.For = 3 then
   some (decide (rA3.2.1.Value = ([120] : List UInt8)))
   else
   some false
   else
   some false
   else
   some false
   else
   some false
   else
   some false
   else
   some false
   else
   some false
   else
   some false : Option Bool) fun w =>
 some w
theorem leL21Alive (fuel : Nat) : Le (cL21Alive fuel) (tL21Alive) := by
  unfold cL21Alive tL21Alive
  repeat' (first | exact Le.rfl' _ | apply leAcceptorNew | apply leAcceptorEnter | apply leAcceptorPropose | refine Le.bd ?_ fun _ => ?_ | refine Le.ite ?_ ?_ | refine Le.ix fun _ => ?_ | refine Le.loop fun _ => ?_ | refine Le.sum (fun _ => ?_) (fun _ => ?_) | intro _)
def cLearnerNew (fuel : Nat) (sA : SizeSize) : Option (LearnerLearner × Int) :=
 bd ((cSizeRight fuel) sA) fun rA =>
 if !rA then
 some ((⟨(⟨0, 0⟩ : SizeSize), (⟨([] : List ApiAccept)⟩ : TallyTally), (⟨([] : List ApiAccept)⟩ : TallyTally), (⟨([] : List ApiAccept)⟩ : TallyTally), false, ([] : List UInt8)⟩ : LearnerLearner), 1)
 else
 some ((⟨sA, (⟨([] : List ApiAccept)⟩ : TallyTally), (⟨([] : List ApiAccept)⟩ : TallyTally), (⟨([] : List ApiAccept)⟩ : TallyTally), false, ([] : List UInt8)⟩ : LearnerLearner), 0)
theorem leLearnerNew (fuel : Nat) (sA : SizeSize) : Le (cLearnerNew fuel sA) (tLearnerNew sA) := by
  unfold cLearnerNew tLearnerNew
  repeat' (first | exact Le.rfl' _ | apply leSizeRight | refine Le.bd ?_ fun _ => ?_ | refine Le.ite ?_ ?_ | refine Le.ix fun _ => ?_ | refine Le.loop fun _ => ?_ | refine Le.sum (fun _ => ?_) (fun _ => ?_) | intro _)
def cSizeWeak (fuel : Nat) (sA : SizeSize) : Option Int :=
 bd ((cSizeSizeOf fuel) sA (4607182418800017408, 0)) fun rA =>
 some rA
theorem leSizeWeak (fuel : Nat) (sA : SizeSize) : Le (cSizeWeak fuel sA) (tSizeWeak sA) := by
  unfold cSizeWeak tSizeWeak
  repeat' (first | exact Le.rfl' _ | apply leSizeSizeOf | refine Le.bd ?_ fun _ => ?_ | refine Le.ite ?_ ?_ | refine Le.ix fun _ => ?_ | refine Le.loop fun _ => ?_ | refine Le.sum (fun _ => ?_) (fun _ => ?_) | intro _)
def cCmpIsNaNInt (fuel : Nat) (x : Int) : Option Bool :=
 some (!decide (x = x))
theorem leCmpIsNaNInt (fuel : Nat) (x : Int) : Le (cCmpIsNaNInt fuel x) (tCmpIsNaNInt x) := by
  unfold cCmpIsNaNInt tCmpIsNaNInt
  repeat' (first | exact Le.rfl' _ | refine Le.bd ?_ fun _ => ?_ | refine Le.ite ?_ ?_ | refine Le.ix fun _ => ?_ | refine Le.loop fun _ => ?_ | refine Le.sum (fun _ => ?_) (fun _ => ?_) | intro _)
def cCmpCompareInt (fuel : Nat) (x : Int) (y : Int) : Option Int :=
 bd ((cCmpIsNaNInt fuel) x) fun rA =>
 bd ((cCmpIsNaNInt fuel) y) fun rA1 =>
 if rA then
 if rA1 then
 some 0
 else
 some (-1)
 else
 if rA1 then
 some 1
 else
 if x < y then
 some (-1)
 else
 if y < x then
 some 1
 else
 some 0
theorem leCmpCompareInt (fuel : Nat) (x : Int) (y : Int) : Le (cCmpCompareInt fuel x y) (tCmpCompareInt x y) := by
  unfold cCmpCompareInt tCmpCompareInt
  repeat' (first | exact Le.rfl' _ | apply leCmpIsNaNInt | refine Le.bd ?_ fun _ => ?_ | refine Le.ite ?_ ?_ | refine Le.ix fun _ => ?_ | refine Le.loop fun _ => ?_ | refine Le.sum (fun _ => ?_) (fun _ => ?_) | intro _)
def cTallyAddF1 (fuel : Nat) (x : ApiAccept) (byA : Int) : Option Int :=
 bd ((cCmpCompareInt fuel) x.By byA) fun rA =>
 some rA
theorem leTallyAddF1 (fuel : Nat) (x : ApiAccept) (byA : Int) : Le (cTallyAddF1 fuel x byA) (tTallyAddF1 x byA) := by
  unfold cTallyAddF1 tTallyAddF1
  repeat' (first | exact Le.rfl' _ | apply leCmpCompareInt | refine Le.bd ?_ fun _ => ?_ | refine Le.ite ?_ ?_ | refine Le.ix fun _ => ?_ | refine Le.loop fun _ => ?_ | refine Le.sum (fun _ => ?_) (fun _ => ?_) | intro _)
def cSlicesBinarySearchFuncApiAcceptIntL1 (fuel : Nat) (x : List ApiAccept) (target : Int) (cmp : ApiAccept → Int → Option Int) (st : Int × Int) : Option ((Int × Int) ⊕ Int) :=
 if st.1 < st.2 then
 if (0 : Int) ≤ 1 then
 ix x (IntKind.wrap .i64 (Int.fdiv (IntKind.wrap .u64 (IntKind.wrap .i64 (st.1 + st.2))) (2 ^ min (Int.toNat 1) (IntKind.bits .u64)))) fun y =>
 bd (cmp y target) fun rA =>
 bd (
   if rA < 0 then
   some (IntKind.wrap .i64 ((IntKind.wrap .i64 (Int.fdiv (IntKind.wrap .u64 (IntKind.wrap .i64 (st.1 + st.2))) (2 ^ min (Int.toNat 1) (IntKind.bits .u64)))) + 1), st.2)
   else
   some (st.1, IntKind.wrap .i64 (Int.fdiv (IntKind.wrap .u64 (IntKind.wrap .i64 (st.1 + st.2))) (2 ^ min (Int.toNat 1) (IntKind.bits .u64)))) : Option (Int × Int)) fun w1 =>
 some (.inl (w1.1, w1.2))
 else none
 else
 some (.inr st.1)
theorem leSlicesBinarySearchFuncApiAcceptIntL1 (fuel : Nat) (x : List ApiAccept) (target : Int) (cmp cmpA : ApiAccept → Int → Option Int) (hcmp : ∀ u0 u1, Le (cmp u0 u1) (cmpA u0 u1)) (st : Int × Int) : Le (cSlicesBinarySearchFuncApiAcceptIntL1 fuel x target cmp st) (tSlicesBinarySearchFuncApiAcceptIntL1 x target cmpA st) := by
  unfold cSlicesBinarySearchFuncApiAcceptIntL1 tSlicesBinarySearchFuncApiAcceptIntL1
  repeat' (first | exact Le.rfl' _ | exact hcmp _ _ _ | exact hcmp _ _ | exact hcmp _ | exact hcmp | refine Le.bd ?_ fun _ => ?_ | refine Le.ite ?_ ?_ | refine Le.ix fun _ => ?_ | refine Le.loop fun _ => ?_ | refine Le.sum (fun _ => ?_) (fun _ => ?_) | intro _)
def cSlicesBinarySearchFuncApiAcceptInt (fuel : Nat) (x : List ApiAccept) (target : Int) (cmp : ApiAccept → Int → Option Int) : Option (Int × Bool) :=
 bd (LoopC fuel ((cSlicesBinarySearchFuncApiAcceptIntL1 fuel) x target cmp) (0, (x.length : Int))) fun w =>
 bd (
   if w < (x.length : Int) then
   ix x w fun y1 =>
   bd (cmp y1 target) fun rA1 =>
   some (w, decide (rA1 = 0))
   else
   some (w, false) : Option (Int × Bool)) fun w2 =>
 some (w2.1, w2.2)
theorem leSlicesBinarySearchFuncApiAcceptInt (fuel : Nat) (x : List ApiAccept) (target : Int) (cmp cmpA : ApiAccept → Int → Option Int) (hcmp : ∀ u0 u1, Le (cmp u0 u1) (cmpA u0 u1)) : Le (cSlicesBinarySearchFuncApiAcceptInt fuel x target cmp) (tSlicesBinarySearchFuncApiAcceptInt x target cmpA) := by
  unfold cSlicesBinarySearchFuncApiAcceptInt tSlicesBinarySearchFuncApiAcceptInt
  repeat' (first | exact Le.rfl' _ | apply leSlicesBinarySearchFuncApiAcceptIntL1 | exact hcmp _ _ _ | exact hcmp _ _ | exact hcmp _ | exact hcmp | refine Le.bd ?_ fun _ => ?_ | refine Le.ite ?_ ?_ | refine Le.ix fun _ => ?_ | refine Le.loop fun _ => ?_ | refine Le.sum (fun _ => ?_) (fun _ => ?_) | intro _)
def cTallyAdd (fuel : Nat) (t : TallyTally) (a : ApiAccept) : Option (TallyTally × Bool) :=
 bd ((cTallyMay fuel) a) fun rA =>
 if !rA then
 some (t, false)
 else
 bd ((cSlicesBinarySearchFuncApiAcceptInt fuel) t.L a.By (cTallyAddF1 fuel)) fun rA1 =>
 bd (
   if rA1.2 then
   ix t.L rA1.1 fun y =>
   some (decide (a.View ≤ y.View))
   else
   some false : Option Bool) fun w =>
 if w then
 some (t, false)
 else
 bd (tClone 32 t.L) fun rA2 =>
 bd (
   if rA1.2 then
   ix rA2 rA1.1 fun y1 =>
   some (rA2.set (Int.toNat rA1.1) a)
   else
   bd (tInsert 32 rA2 rA1.1 ([a] : List ApiAccept)) fun rA3 =>
   some rA3 : Option (List ApiAccept)) fun w1 =>
 some ((⟨w1⟩ : TallyTally), true)
theorem leTallyAdd (fuel : Nat) (t : TallyTally) (a : ApiAccept) : Le (cTallyAdd fuel t a) (tTallyAdd t a) := by
  unfold cTallyAdd tTallyAdd
  repeat' (first | exact Le.rfl' _ | apply leTallyMay | apply leTallyAddF1 | apply leSlicesBinarySearchFuncApiAcceptInt | refine Le.bd ?_ fun _ => ?_ | refine Le.ite ?_ ?_ | refine Le.ix fun _ => ?_ | refine Le.loop fun _ => ?_ | refine Le.sum (fun _ => ?_) (fun _ => ?_) | intro _)
def cTallyBestL1 (fuel : Nat) (a : TallyTally) (st : (List MV) × Int) : Option (((List MV) × Int) ⊕ (List MV)) :=
 if st.2 < (a.L.length : Int) then
 ix a.L st.2 fun y =>
 if (0 : Int) ≤ (midx st.1 ([.i .i64 y.View, .s y.Value] : List MV) : Int) ∧ Int.toNat (midx st.1 ([.i .i64 y.View, .s y.Value] : List MV) : Int) < (ment st.1 ([.i .i64 y.View, .s y.Value] : List MV) (.i .i64 0)).length then
 some (.inl (mset (ment st.1 ([.i .i64 y.View, .s y.Value] : List MV) (.i .i64 0)) (Int.toNat (midx st.1 ([.i .i64 y.View, .s y.Value] : List MV) : Int)) (.i .i64 (IntKind.wrap .i64 ((mgetI st.1 ([.i .i64 y.View, .s y.Value] : List MV)) + 1))), IntKind.wrap .i64 (st.2 + 1)))
 else none
 else
 some (.inr st.1)
theorem leTallyBestL1 (fuel : Nat) (a : TallyTally) (st : (List MV) × Int) : Le (cTallyBestL1 fuel a st) (tTallyBestL1 a st) := by
  unfold cTallyBestL1 tTallyBestL1
  repeat' (first | exact Le.rfl' _ | refine Le.bd ?_ fun _ => ?_ | refine Le.ite ?_ ?_ | refine Le.ix fun _ => ?_ | refine Le.loop fun _ => ?_ | refine Le.sum (fun _ => ?_) (fun _ => ?_) | intro _)
def cTallyBestL2 (fuel : Nat) (a : TallyTally) (a1 : Int) (w : (List MV)) (st1 : Int × (List UInt8) × Bool × Int) : Option ((Int × (List UInt8) × Bool × Int) ⊕ (Int × (List UInt8) × Bool)) :=
 if st1.2.2.2 < (a.L.length : Int) then
 ix a.L st1.2.2.2 fun y1 =>
 bd (
   if (1 : Int) ≤ a1 then
   if a1 ≤ (mgetI w ([.i .i64 y1.View, .s y1.Value] : List MV)) then
   some (decide (st1.1 < y1.View))
   else
   some false
   else
   some false : Option Bool) fun w2 =>
 bd (
   if w2 then
   some (y1.View, y1.Value, true)
   else
   some (st1.1, st1.2.1, st1.2.2.1) : Option (Int × (List UInt8) × Bool)) fun w3 =>
 some (.inl (w3.1, w3.2.1, w3.2.2, IntKind.wrap .i64 (st1.2.2.2 + 1)))
 else
 some (.inr (st1.1, st1.2.1, st1.2.2.1))
theorem leTallyBestL2 (fuel : Nat) (a : TallyTally) (a1 : Int) (w : (List MV)) (st1 : Int × (List UInt8) × Bool × Int) : Le (cTallyBestL2 fuel a a1 w st1) (tTallyBestL2 a a1 w st1) := by
  unfold cTallyBestL2 tTallyBestL2
  repeat' (first | exact Le.rfl' _ | refine Le.bd ?_ fun _ => ?_ | refine Le.ite ?_ ?_ | refine Le.ix fun _ => ?_ | refine Le.loop fun _ => ?_ | refine Le.sum (fun _ => ?_) (fun _ => ?_) | intro _)
def cTallyBest (fuel : Nat) (a : TallyTally) (a1 : Int) : Option (Int × (List UInt8) × Bool) :=
 bd (LoopC fuel ((cTallyBestL1 fuel) a) (([] : List MV), 0)) fun w =>
 bd (LoopC fuel ((cTallyBestL2 fuel) a a1 w) ((-1), ([] : List UInt8), false, 0)) fun w1 =>
 if !w1.2.2 then
 some (0, ([] : List UInt8), false)
 else
 some (w1.1, w1.2.1, true)
theorem leTallyBest (fuel : Nat) (a : TallyTally) (a1 : Int) : Le (cTallyBest fuel a a1) (tTallyBest a a1) := by
  unfold cTallyBest tTallyBest
  repeat' (first | exact Le.rfl' _ | apply leTallyBestL1 | apply leTallyBestL2 | refine Le.bd ?_ fun _ => ?_ | refine Le.ite ?_ ?_ | refine Le.ix fun _ => ?_ | refine Le.loop fun _ => ?_ | refine Le.sum (fun _ => ?_) (fun _ => ?_) | intro _)
def cLearnerLearnerHears2 (fuel : Nat) (lA : LearnerLearner) (t : LearnerLearner) (a : ApiAccept) (need : Int) : Option ((Bool × (List UInt8)) × LearnerLearner) :=
 bd (
   if lA.Done then
   some true
   else
   if a.By < 0 then
   some true
   else
   bd ((cSizeN fuel) lA.S) fun rA =>
   if rA ≤ a.By then
   some true
   else
   bd ((cTallyMay fuel) a) fun rA1 =>
   some (!rA1) : Option Bool) fun w =>
 if w then
 some ((false, ([] : List UInt8)), t)
 else
 bd ((cTallyAdd fuel) t.Accepts a) fun rA2 =>
 bd ((cTallyBest fuel) rA2.1 need) fun rA3 =>
 some ((rA3.2.2, rA3.2.1), (⟨t.S, rA2.1, t.Commits, t.Told, t.Done, t.Value⟩ : LearnerLearner))
theorem leLearnerLearnerHears2 (fuel : Nat) (lA : LearnerLearner) (t : LearnerLearner) (a : ApiAccept) (need : Int) : Le (cLearnerLearnerHears2 fuel lA t a need) (tLearnerLearnerHears2 lA t a need) := by
  unfold cLearnerLearnerHears2 tLearnerLearnerHears2
  repeat' (first | exact Le.rfl' _ | apply leSizeN | apply leTallyMay | apply leTallyAdd | apply leTallyBest | refine Le.bd ?_ fun _ => ?_ | refine Le.ite ?_ ?_ | refine Le.ix fun _ => ?_ | refine Le.loop fun _ => ?_ | refine Le.sum (fun _ => ?_) (fun _ => ?_) | intro _)
def cLearnerLearnerHears3 (fuel : Nat) (lA : LearnerLearner) (t : LearnerLearner) (a : ApiAccept) (need : Int) : Option ((Bool × (List UInt8)) × LearnerLearner) :=
 bd (
   if lA.Done then
   some true
   else
   if a.By < 0 then
   some true
   else
   bd ((cSizeN fuel) lA.S) fun rA =>
   if rA ≤ a.By then
   some true
   else
   bd ((cTallyMay fuel) a) fun rA1 =>
   some (!rA1) : Option Bool) fun w =>
 if w then
 some ((false, ([] : List UInt8)), t)
 else
 bd ((cTallyAdd fuel) t.Commits a) fun rA2 =>
 bd ((cTallyBest fuel) rA2.1 need) fun rA3 =>
 some ((rA3.2.2, rA3.2.1), (⟨t.S, t.Accepts, rA2.1, t.Told, t.Done, t.Value⟩ : LearnerLearner))
theorem leLearnerLearnerHears3 (fuel : Nat) (lA : LearnerLearner) (t : LearnerLearner) (a : ApiAccept) (need : Int) : Le (cLearnerLearnerHears3 fuel lA t a need) (tLearnerLearnerHears3 lA t a need) := by
  unfold cLearnerLearnerHears3 tLearnerLearnerHears3
  repeat' (first | exact Le.rfl' _ | apply leSizeN | apply leTallyMay | apply leTallyAdd | apply leTallyBest | refine Le.bd ?_ fun _ => ?_ | refine Le.ite ?_ ?_ | refine Le.ix fun _ => ?_ | refine Le.loop fun _ => ?_ | refine Le.sum (fun _ => ?_) (fun _ => ?_) | intro _)
def cLearnerLearnerHears4 (fuel : Nat) (lA : LearnerLearner) (t : LearnerLearner) (a : ApiAccept) (need : Int) : Option ((Bool × (List UInt8)) × LearnerLearner) :=
 bd (
   if lA.Done then
   some true
   else
   if a.By < 0 then
   some true
   else
   bd ((cSizeN fuel) lA.S) fun rA =>
   if rA ≤ a.By then
   some true
   else
   bd ((cTallyMay fuel) a) fun rA1 =>
   some (!rA1) : Option Bool) fun w =>
 if w then
 some ((false, ([] : List UInt8)), t)
 else
 bd ((cTallyAdd fuel) t.Told a) fun rA2 =>
 bd ((cTallyBest fuel) rA2.1 need) fun rA3 =>
 some ((rA3.2.2, rA3.2.1), (⟨t.S, t.Accepts, t.Commits, rA2.1, t.Done, t.Value⟩ : LearnerLearner))
theorem leLearnerLearnerHears4 (fuel : Nat) (lA : LearnerLearner) (t : LearnerLearner) (a : ApiAccept) (need : Int) : Le (cLearnerLearnerHears4 fuel lA t a need) (tLearnerLearnerHears4 lA t a need) := by
  unfold cLearnerLearnerHears4 tLearnerLearnerHears4
  repeat' (first | exact Le.rfl' _ | apply leSizeN | apply leTallyMay | apply leTallyAdd | apply leTallyBest | refine Le.bd ?_ fun _ => ?_ | refine Le.ite ?_ ?_ | refine Le.ix fun _ => ?_ | refine Le.loop fun _ => ?_ | refine Le.sum (fun _ => ?_) (fun _ => ?_) | intro _)
def cLearnerTold (fuel : Nat) (lA : LearnerLearner) (byA : Int) (value : List UInt8) : Option LearnerLearner :=
 bd ((cSizeWeak fuel) lA.S) fun rA =>
 bd ((cLearnerLearnerHears4 fuel) lA lA (⟨byA, 0, value⟩ : ApiAccept) rA) fun rA1 =>
 bd (
   if rA1.1.1 then
   some (rA1.2.S.F, rA1.2.S.T, rA1.2.Accepts.L, rA1.2.Commits.L, rA1.2.Told.L, true, rA1.1.2)
   else
   some (rA1.2.S.F, rA1.2.S.T, rA1.2.Accepts.L, rA1.2.Commits.L, rA1.2.Told.L, rA1.2.Done, rA1.2.Value) : Option (Int × Int × (List ApiAccept) × (List ApiAccept) × (List ApiAccept) × Bool × (List UInt8))) fun w =>
 some (⟨(⟨w.1, w.2.1⟩ : SizeSize), (⟨w.2.2.1⟩ : TallyTally), (⟨w.2.2.2.1⟩ : TallyTally), (⟨w.2.2.2.2.1⟩ : TallyTally), w.2.2.2.2.2.1, w.2.2.2.2.2.2⟩ : LearnerLearner)
theorem leLearnerTold (fuel : Nat) (lA : LearnerLearner) (byA : Int) (value : List UInt8) : Le (cLearnerTold fuel lA byA value) (tLearnerTold lA byA value) := by
  unfold cLearnerTold tLearnerTold
  repeat' (first | exact Le.rfl' _ | apply leSizeWeak | apply leLearnerLearnerHears4 | refine Le.bd ?_ fun _ => ?_ | refine Le.ite ?_ ?_ | refine Le.ix fun _ => ?_ | refine Le.loop fun _ => ?_ | refine Le.sum (fun _ => ?_) (fun _ => ?_) | intro _)
def cL22Alive (fuel : Nat) : Option Bool :=
 bd ((cLearnerNew fuel) (⟨1, 0⟩ : SizeSize)) fun rA =>
 bd ((cLearnerTold fuel) rA.1 0 ([120] : List UInt8)) fun rA1 =>
 bd ((cLearnerTold fuel) rA1 3 ([120] : List UInt8)) fun rA2 =>
 bd (
   if rA.2 = 0 then
   if !rA1.Done then
   if rA2.Done then
   if rA2.Value = ([120] : List UInt8) then
   some (decide ((rA2.Told.L.length : Int) = 2))
   else
   some false
   else
   some false
   else
   some false
   else
   some false : Option Bool) fun w =>
 some w
theorem leL22Alive (fuel : Nat) : Le (cL22Alive fuel) (tL22Alive) := by
  unfold cL22Alive tL22Alive
  repeat' (first | exact Le.rfl' _ | apply leLearnerNew | apply leLearnerTold | refine Le.bd ?_ fun _ => ?_ | refine Le.ite ?_ ?_ | refine Le.ix fun _ => ?_ | refine Le.loop fun _ => ?_ | refine Le.sum (fun _ => ?_) (fun _ => ?_) | intro _)
theorem evL21Alive : tL21Alive = some true := leL21Alive 200 _ (by decide +kernel)
theorem evL22Alive : tL22Alive = some true := leL22Alive 200 _ (by decide +kernel)
end Dn.S
