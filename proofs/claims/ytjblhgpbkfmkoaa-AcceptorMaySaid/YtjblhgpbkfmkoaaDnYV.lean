import Derived.Test.YtjblhgpbkfmkoaaDnYT
import Derived.Test.YtjblhgpbkfmkoaaDnD
/-
  The functions, with a bound on their rounds. Conditions: none.
-/
open Go Dn
set_option linter.unusedVariables false
set_option linter.unusedSimpArgs false
set_option maxRecDepth 100000
namespace Dn.S
def cSizeSizePair (n : Nat) (sA : SizeSize) : Option (Nat × Nat) :=
 some (FloatKind.nearest .f64 sA.F, FloatKind.nearest .f64 sA.T)
theorem leSizeSizePair (n : Nat) (sA : SizeSize) : Le (cSizeSizePair n sA) (tSizeSizePair sA) := by
  unfold cSizeSizePair tSizeSizePair
  repeat' (first | exact Le.rfl' _ | refine Le.bd ?_ fun _ => ?_ | refine Le.ite ?_ ?_ | refine Le.ix fun _ => ?_ | refine Le.loop fun _ => ?_ | refine Le.sum (fun _ => ?_) (fun _ => ?_) | intro _)
def cSizeSizeOf (n : Nat) (sA : SizeSize) (times : Nat × Nat) : Option Int :=
 bd ((cSizeSizePair n) sA) fun rA =>
 bd (FloatKind.f64.format.mul rA.1 times.1) fun f =>
 bd (FloatKind.f64.format.mul rA.2 times.2) fun f1 =>
 bd (FloatKind.f64.format.add f f1) fun f2 =>
 bd ((FloatKind.decode .f64 f2).toInt .zero) fun n =>
 if IntKind.min .i64 ≤ n ∧ n ≤ IntKind.max .i64 then
 some (IntKind.wrap .i64 (n + 1))
 else none
theorem leSizeSizeOf (n : Nat) (sA : SizeSize) (times : Nat × Nat) : Le (cSizeSizeOf n sA times) (tSizeSizeOf sA times) := by
  unfold cSizeSizeOf tSizeSizeOf
  repeat' (first | exact Le.rfl' _ | apply leSizeSizePair | refine Le.bd ?_ fun _ => ?_ | refine Le.ite ?_ ?_ | refine Le.ix fun _ => ?_ | refine Le.loop fun _ => ?_ | refine Le.sum (fun _ => ?_) (fun _ => ?_) | intro _)
def cSizeN (n : Nat) (sA : SizeSize) : Option Int :=
 bd ((cSizeSizeOf n) sA (4613937818241073152, 4611686018427387904)) fun rA =>
 some rA
theorem leSizeN (n : Nat) (sA : SizeSize) : Le (cSizeN n sA) (tSizeN sA) := by
  unfold cSizeN tSizeN
  repeat' (first | exact Le.rfl' _ | apply leSizeSizePair | apply leSizeSizeOf | refine Le.bd ?_ fun _ => ?_ | refine Le.ite ?_ ?_ | refine Le.ix fun _ => ?_ | refine Le.loop fun _ => ?_ | refine Le.sum (fun _ => ?_) (fun _ => ?_) | intro _)
def cSizeRight (n : Nat) (sA : SizeSize) : Option Bool :=
 bd (
   if (1 : Int) ≤ sA.F then
   if sA.F ≤ 5 then
   if (0 : Int) ≤ sA.T then
   some (decide (sA.T ≤ sA.F))
   else
   some false
   else
   some false
   else
   some false : Option Bool) fun w =>
 some w
theorem leSizeRight (n : Nat) (sA : SizeSize) : Le (cSizeRight n sA) (tSizeRight sA) := by
  unfold cSizeRight tSizeRight
  repeat' (first | exact Le.rfl' _ | apply leSizeSizePair | apply leSizeSizeOf | apply leSizeN | refine Le.bd ?_ fun _ => ?_ | refine Le.ite ?_ ?_ | refine Le.ix fun _ => ?_ | refine Le.loop fun _ => ?_ | refine Le.sum (fun _ => ?_) (fun _ => ?_) | intro _)
def cAcceptorNew (n : Nat) (sA : SizeSize) (me : Int) : Option (AcceptorAcceptor × Int) :=
 bd (
   bd ((cSizeRight n) sA) fun rA =>
   if !rA then
   some true
   else
   if me < 0 then
   some true
   else
   bd ((cSizeN n) sA) fun rA1 =>
   some (decide (rA1 ≤ me)) : Option Bool) fun w =>
 if w then
 some ((⟨(⟨0, 0⟩ : SizeSize), 0, 0, false, 0, ([] : List UInt8), ([] : List ApiAccept), (⟨([] : List ApiAccept)⟩ : TallyTally)⟩ : AcceptorAcceptor), 1)
 else
 some ((⟨sA, me, 0, false, 0, ([] : List UInt8), ([] : List ApiAccept), (⟨([] : List ApiAccept)⟩ : TallyTally)⟩ : AcceptorAcceptor), 0)
theorem leAcceptorNew (n : Nat) (sA : SizeSize) (me : Int) : Le (cAcceptorNew n sA me) (tAcceptorNew sA me) := by
  unfold cAcceptorNew tAcceptorNew
  repeat' (first | exact Le.rfl' _ | apply leSizeSizePair | apply leSizeSizeOf | apply leSizeN | apply leSizeRight | refine Le.bd ?_ fun _ => ?_ | refine Le.ite ?_ ?_ | refine Le.ix fun _ => ?_ | refine Le.loop fun _ => ?_ | refine Le.sum (fun _ => ?_) (fun _ => ?_) | intro _)
def cAcceptorTell (n : Nat) (a : AcceptorAcceptor) : Option ApiReport :=
 some (⟨a.Me, a.View, a.Has, a.At, a.Value, a.Proof⟩ : ApiReport)
theorem leAcceptorTell (n : Nat) (a : AcceptorAcceptor) : Le (cAcceptorTell n a) (tAcceptorTell a) := by
  unfold cAcceptorTell tAcceptorTell
  repeat' (first | exact Le.rfl' _ | apply leSizeSizePair | apply leSizeSizeOf | apply leSizeN | apply leSizeRight | apply leAcceptorNew | refine Le.bd ?_ fun _ => ?_ | refine Le.ite ?_ ?_ | refine Le.ix fun _ => ?_ | refine Le.loop fun _ => ?_ | refine Le.sum (fun _ => ?_) (fun _ => ?_) | intro _)
def cAcceptorEnter (n : Nat) (a : AcceptorAcceptor) (view : Int) : Option (AcceptorAcceptor × ApiReport × Bool) :=
 bd (
   if view ≤ a.View then
   some true
   else
   some (decide ((100000 : Int) < view)) : Option Bool) fun w =>
 if w then
 some (a, (⟨0, 0, false, 0, ([] : List UInt8), ([] : List ApiAccept)⟩ : ApiReport), false)
 else
 bd ((cAcceptorTell n) (⟨a.S, a.Me, view, a.Has, a.At, a.Value, a.Proof, (⟨([] : List ApiAccept)⟩ : TallyTally)⟩ : AcceptorAcceptor)) fun rA =>
 some ((⟨a.S, a.Me, view, a.Has, a.At, a.Value, a.Proof, (⟨([] : List ApiAccept)⟩ : TallyTally)⟩ : AcceptorAcceptor), rA, true)
theorem leAcceptorEnter (n : Nat) (a : AcceptorAcceptor) (view : Int) : Le (cAcceptorEnter n a view) (tAcceptorEnter a view) := by
  unfold cAcceptorEnter tAcceptorEnter
  repeat' (first | exact Le.rfl' _ | apply leSizeSizePair | apply leSizeSizeOf | apply leSizeN | apply leSizeRight | apply leAcceptorNew | apply leAcceptorTell | refine Le.bd ?_ fun _ => ?_ | refine Le.ite ?_ ?_ | refine Le.ix fun _ => ?_ | refine Le.loop fun _ => ?_ | refine Le.sum (fun _ => ?_) (fun _ => ?_) | intro _)
def cSizeMost (n : Nat) (sA : SizeSize) : Option Int :=
 bd ((cSizeSizeOf n) sA (4611686018427387904, 4611686018427387904)) fun rA =>
 some rA
theorem leSizeMost (n : Nat) (sA : SizeSize) : Le (cSizeMost n sA) (tSizeMost sA) := by
  unfold cSizeMost tSizeMost
  repeat' (first | exact Le.rfl' _ | apply leSizeSizePair | apply leSizeSizeOf | apply leSizeN | apply leSizeRight | apply leAcceptorNew | apply leAcceptorTell | apply leAcceptorEnter | refine Le.bd ?_ fun _ => ?_ | refine Le.ite ?_ ?_ | refine Le.ix fun _ => ?_ | refine Le.loop fun _ => ?_ | refine Le.sum (fun _ => ?_) (fun _ => ?_) | intro _)
def cSizeProof (n : Nat) (sA : SizeSize) : Option Int :=
 bd ((cSizeSizeOf n) sA (4611686018427387904, 4607182418800017408)) fun rA =>
 some rA
theorem leSizeProof (n : Nat) (sA : SizeSize) : Le (cSizeProof n sA) (tSizeProof sA) := by
  unfold cSizeProof tSizeProof
  repeat' (first | exact Le.rfl' _ | apply leSizeSizePair | apply leSizeSizeOf | apply leSizeN | apply leSizeRight | apply leAcceptorNew | apply leAcceptorTell | apply leAcceptorEnter | apply leSizeMost | refine Le.bd ?_ fun _ => ?_ | refine Le.ite ?_ ?_ | refine Le.ix fun _ => ?_ | refine Le.loop fun _ => ?_ | refine Le.sum (fun _ => ?_) (fun _ => ?_) | intro _)
def cTallyMay (n : Nat) (a : ApiAccept) : Option Bool :=
 bd (
   if (0 : Int) ≤ a.By then
   if (0 : Int) ≤ a.View then
   if a.View ≤ 100000 then
   some (decide ((a.Value.length : Int) ≤ 6000))
   else
   some false
   else
   some false
   else
   some false : Option Bool) fun w =>
 some w
theorem leTallyMay (n : Nat) (a : ApiAccept) : Le (cTallyMay n a) (tTallyMay a) := by
  unfold cTallyMay tTallyMay
  repeat' (first | exact Le.rfl' _ | apply leSizeSizePair | apply leSizeSizeOf | apply leSizeN | apply leSizeRight | apply leAcceptorNew | apply leAcceptorTell | apply leAcceptorEnter | apply leSizeMost | apply leSizeProof | refine Le.bd ?_ fun _ => ?_ | refine Le.ite ?_ ?_ | refine Le.ix fun _ => ?_ | refine Le.loop fun _ => ?_ | refine Le.sum (fun _ => ?_) (fun _ => ?_) | intro _)
def cTallyRightL1 (n : Nat) (t : TallyTally) (st : Int) : Option (Int ⊕ (Unit ⊕ Bool)) :=
 if st < (t.L.length : Int) then
 ix t.L st fun y =>
 bd (
   bd ((cTallyMay n) y) fun rA =>
   if !rA then
   some true
   else
   if (0 : Int) < st then
   ix t.L (IntKind.wrap .i64 (st - 1)) fun y1 =>
   some (decide (y.By ≤ y1.By))
   else
   some false : Option Bool) fun w1 =>
 if w1 then
 some (.inr (.inr false))
 else
 some (.inl (IntKind.wrap .i64 (st + 1)))
 else
 some (.inr (.inl ()))
theorem leTallyRightL1 (n : Nat) (t : TallyTally) (st : Int) : Le (cTallyRightL1 n t st) (tTallyRightL1 t st) := by
  unfold cTallyRightL1 tTallyRightL1
  repeat' (first | exact Le.rfl' _ | apply leSizeSizePair | apply leSizeSizeOf | apply leSizeN | apply leSizeRight | apply leAcceptorNew | apply leAcceptorTell | apply leAcceptorEnter | apply leSizeMost | apply leSizeProof | apply leTallyMay | refine Le.bd ?_ fun _ => ?_ | refine Le.ite ?_ ?_ | refine Le.ix fun _ => ?_ | refine Le.loop fun _ => ?_ | refine Le.sum (fun _ => ?_) (fun _ => ?_) | intro _)
def cTallyRight (n : Nat) (t : TallyTally) : Option Bool :=
 bd (LoopC n ((cTallyRightL1 n) t) 0) fun w =>
 match w with
 | .inl p1 =>
   some true
 | .inr p2 =>
   some p2
theorem leTallyRight (n : Nat) (t : TallyTally) : Le (cTallyRight n t) (tTallyRight t) := by
  unfold cTallyRight tTallyRight
  repeat' (first | exact Le.rfl' _ | apply leSizeSizePair | apply leSizeSizeOf | apply leSizeN | apply leSizeRight | apply leAcceptorNew | apply leAcceptorTell | apply leAcceptorEnter | apply leSizeMost | apply leSizeProof | apply leTallyMay | apply leTallyRightL1 | refine Le.bd ?_ fun _ => ?_ | refine Le.ite ?_ ?_ | refine Le.ix fun _ => ?_ | refine Le.loop fun _ => ?_ | refine Le.sum (fun _ => ?_) (fun _ => ?_) | intro _)
def cTallyVotersL1 (n : Nat) (t : TallyTally) (view : Int) (value : List UInt8) (st : (List ApiAccept) × Int) : Option (((List ApiAccept) × Int) ⊕ (List ApiAccept)) :=
 if st.2 < (t.L.length : Int) then
 ix t.L st.2 fun y =>
 bd (
   if y.View = view then
   some (decide (y.Value = value))
   else
   some false : Option Bool) fun w1 =>
 bd (
   if w1 then
   if (st.1.length + ([y] : List ApiAccept).length) * 32 ≤ 2 ^ 46 then
   some (st.1 ++ ([y] : List ApiAccept))
   else none
   else
   some st.1 : Option (List ApiAccept)) fun w2 =>
 some (.inl (w2, IntKind.wrap .i64 (st.2 + 1)))
 else
 some (.inr st.1)
theorem leTallyVotersL1 (n : Nat) (t : TallyTally) (view : Int) (value : List UInt8) (st : (List ApiAccept) × Int) : Le (cTallyVotersL1 n t view value st) (tTallyVotersL1 t view value st) := by
  unfold cTallyVotersL1 tTallyVotersL1
  repeat' (first | exact Le.rfl' _ | apply leSizeSizePair | apply leSizeSizeOf | apply leSizeN | apply leSizeRight | apply leAcceptorNew | apply leAcceptorTell | apply leAcceptorEnter | apply leSizeMost | apply leSizeProof | apply leTallyMay | apply leTallyRight | refine Le.bd ?_ fun _ => ?_ | refine Le.ite ?_ ?_ | refine Le.ix fun _ => ?_ | refine Le.loop fun _ => ?_ | refine Le.sum (fun _ => ?_) (fun _ => ?_) | intro _)
def cTallyVoters (n : Nat) (t : TallyTally) (view : Int) (value : List UInt8) : Option (List ApiAccept) :=
 bd (LoopC n ((cTallyVotersL1 n) t view value) (([] : List ApiAccept), 0)) fun w =>
 some w
theorem leTallyVoters (n : Nat) (t : TallyTally) (view : Int) (value : List UInt8) : Le (cTallyVoters n t view value) (tTallyVoters t view value) := by
  unfold cTallyVoters tTallyVoters
  repeat' (first | exact Le.rfl' _ | apply leSizeSizePair | apply leSizeSizeOf | apply leSizeN | apply leSizeRight | apply leAcceptorNew | apply leAcceptorTell | apply leAcceptorEnter | apply leSizeMost | apply leSizeProof | apply leTallyMay | apply leTallyRight | apply leTallyVotersL1 | refine Le.bd ?_ fun _ => ?_ | refine Le.ite ?_ ?_ | refine Le.ix fun _ => ?_ | refine Le.loop fun _ => ?_ | refine Le.sum (fun _ => ?_) (fun _ => ?_) | intro _)
def cTallyCount (n : Nat) (t : TallyTally) (view : Int) (value : List UInt8) : Option Int :=
 bd ((cTallyVoters n) t view value) fun rA =>
 some (rA.length : Int)
theorem leTallyCount (n : Nat) (t : TallyTally) (view : Int) (value : List UInt8) : Le (cTallyCount n t view value) (tTallyCount t view value) := by
  unfold cTallyCount tTallyCount
  repeat' (first | exact Le.rfl' _ | apply leSizeSizePair | apply leSizeSizeOf | apply leSizeN | apply leSizeRight | apply leAcceptorNew | apply leAcceptorTell | apply leAcceptorEnter | apply leSizeMost | apply leSizeProof | apply leTallyMay | apply leTallyRight | apply leTallyVoters | refine Le.bd ?_ fun _ => ?_ | refine Le.ite ?_ ?_ | refine Le.ix fun _ => ?_ | refine Le.loop fun _ => ?_ | refine Le.sum (fun _ => ?_) (fun _ => ?_) | intro _)
def cProofRight (n : Nat) (sA : SizeSize) (p : List ApiAccept) : Option Bool :=
 bd (
   bd ((cSizeRight n) sA) fun rA =>
   if !rA then
   some true
   else
   bd ((cSizeProof n) sA) fun rA1 =>
   if !decide ((p.length : Int) = rA1) then
   some true
   else
   bd ((cTallyRight n) (⟨p⟩ : TallyTally)) fun rA2 =>
   some (!rA2) : Option Bool) fun w =>
 if w then
 some false
 else
 bd (
   ix p (IntKind.wrap .i64 ((p.length : Int) - 1)) fun y =>
   bd ((cSizeN n) sA) fun rA3 =>
   if y.By < rA3 then
   ix p 0 fun y1 =>
   ix p 0 fun y2 =>
   bd ((cTallyCount n) (⟨p⟩ : TallyTally) y1.View y2.Value) fun rA4 =>
   some (decide (rA4 = (p.length : Int)))
   else
   some false : Option Bool) fun w1 =>
 some w1
theorem leProofRight (n : Nat) (sA : SizeSize) (p : List ApiAccept) : Le (cProofRight n sA p) (tProofRight sA p) := by
  unfold cProofRight tProofRight
  repeat' (first | exact Le.rfl' _ | apply leSizeSizePair | apply leSizeSizeOf | apply leSizeN | apply leSizeRight | apply leAcceptorNew | apply leAcceptorTell | apply leAcceptorEnter | apply leSizeMost | apply leSizeProof | apply leTallyMay | apply leTallyRight | apply leTallyVoters | apply leTallyCount | refine Le.bd ?_ fun _ => ?_ | refine Le.ite ?_ ?_ | refine Le.ix fun _ => ?_ | refine Le.loop fun _ => ?_ | refine Le.sum (fun _ => ?_) (fun _ => ?_) | intro _)
def cProofOf (n : Nat) (p : List ApiAccept) : Option (Int × (List UInt8) × Bool) :=
 if (p.length : Int) = 0 then
 some ((-1), ([] : List UInt8), false)
 else
 ix p 0 fun y =>
 ix p 0 fun y1 =>
 some (y.View, y1.Value, true)
theorem leProofOf (n : Nat) (p : List ApiAccept) : Le (cProofOf n p) (tProofOf p) := by
  unfold cProofOf tProofOf
  repeat' (first | exact Le.rfl' _ | apply leSizeSizePair | apply leSizeSizeOf | apply leSizeN | apply leSizeRight | apply leAcceptorNew | apply leAcceptorTell | apply leAcceptorEnter | apply leSizeMost | apply leSizeProof | apply leTallyMay | apply leTallyRight | apply leTallyVoters | apply leTallyCount | apply leProofRight | refine Le.bd ?_ fun _ => ?_ | refine Le.ite ?_ ?_ | refine Le.ix fun _ => ?_ | refine Le.loop fun _ => ?_ | refine Le.sum (fun _ => ?_) (fun _ => ?_) | intro _)
def cReportProved (n : Nat) (rA : ApiReport) : Option Int :=
 bd ((cProofOf n) rA.Proof) fun rA1 =>
 if !rA1.2.2 then
 some (-1)
 else
 some rA1.1
theorem leReportProved (n : Nat) (rA : ApiReport) : Le (cReportProved n rA) (tReportProved rA) := by
  unfold cReportProved tReportProved
  repeat' (first | exact Le.rfl' _ | apply leSizeSizePair | apply leSizeSizeOf | apply leSizeN | apply leSizeRight | apply leAcceptorNew | apply leAcceptorTell | apply leAcceptorEnter | apply leSizeMost | apply leSizeProof | apply leTallyMay | apply leTallyRight | apply leTallyVoters | apply leTallyCount | apply leProofRight | apply leProofOf | refine Le.bd ?_ fun _ => ?_ | refine Le.ite ?_ ?_ | refine Le.ix fun _ => ?_ | refine Le.loop fun _ => ?_ | refine Le.sum (fun _ => ?_) (fun _ => ?_) | intro _)
def cReportMay (n : Nat) (a : SizeSize) (a1 : ApiReport) : Option Bool :=
 bd (
   bd ((cSizeRight n) a) fun rA =>
   if !rA then
   some true
   else
   if a1.By < 0 then
   some true
   else
   bd ((cSizeN n) a) fun rA1 =>
   if rA1 ≤ a1.By then
   some true
   else
   if a1.For < 1 then
   some true
   else
   some (decide ((100000 : Int) < a1.For)) : Option Bool) fun w =>
 if w then
 some false
 else
 bd (
   if !a1.Has then
   if !decide (a1.View = 0) then
   some true
   else
   some (!decide (a1.Value = ([] : List UInt8)))
   else
   some false : Option Bool) fun w1 =>
 if w1 then
 some false
 else
 bd (
   if a1.Has then
   if a1.View < 0 then
   some true
   else
   if a1.For ≤ a1.View then
   some true
   else
   some (decide ((6000 : Int) < (a1.Value.length : Int)))
   else
   some false : Option Bool) fun w2 =>
 if w2 then
 some false
 else
 bd (
   if (a1.Proof.length : Int) = 0 then
   some true
   else
   bd ((cProofRight n) a a1.Proof) fun rA2 =>
   if rA2 then
   bd ((cReportProved n) a1) fun rA3 =>
   some (decide (rA3 < a1.For))
   else
   some false : Option Bool) fun w3 =>
 some w3
theorem leReportMay (n : Nat) (a : SizeSize) (a1 : ApiReport) : Le (cReportMay n a a1) (tReportMay a a1) := by
  unfold cReportMay tReportMay
  repeat' (first | exact Le.rfl' _ | apply leSizeSizePair | apply leSizeSizeOf | apply leSizeN | apply leSizeRight | apply leAcceptorNew | apply leAcceptorTell | apply leAcceptorEnter | apply leSizeMost | apply leSizeProof | apply leTallyMay | apply leTallyRight | apply leTallyVoters | apply leTallyCount | apply leProofRight | apply leProofOf | apply leReportProved | refine Le.bd ?_ fun _ => ?_ | refine Le.ite ?_ ?_ | refine Le.ix fun _ => ?_ | refine Le.loop fun _ => ?_ | refine Le.sum (fun _ => ?_) (fun _ => ?_) | intro _)
def cReportRightL1 (n : Nat) (sA : SizeSize) (view : Int) (lA : List ApiReport) (st : Int × Int) : Option ((Int × Int) ⊕ (Unit ⊕ Bool)) :=
 if st.2 < (lA.length : Int) then
 ix lA st.2 fun y =>
 bd (
   bd ((cReportMay n) sA y) fun rA2 =>
   if !rA2 then
   some true
   else
   if !decide (y.For = view) then
   some true
   else
   some (decide (y.By ≤ st.1)) : Option Bool) fun w2 =>
 if w2 then
 some (.inr (.inr false))
 else
 some (.inl (y.By, IntKind.wrap .i64 (st.2 + 1)))
 else
 some (.inr (.inl ()))
theorem leReportRightL1 (n : Nat) (sA : SizeSize) (view : Int) (lA : List ApiReport) (st : Int × Int) : Le (cReportRightL1 n sA view lA st) (tReportRightL1 sA view lA st) := by
  unfold cReportRightL1 tReportRightL1
  repeat' (first | exact Le.rfl' _ | apply leSizeSizePair | apply leSizeSizeOf | apply leSizeN | apply leSizeRight | apply leAcceptorNew | apply leAcceptorTell | apply leAcceptorEnter | apply leSizeMost | apply leSizeProof | apply leTallyMay | apply leTallyRight | apply leTallyVoters | apply leTallyCount | apply leProofRight | apply leProofOf | apply leReportProved | apply leReportMay | refine Le.bd ?_ fun _ => ?_ | refine Le.ite ?_ ?_ | refine Le.ix fun _ => ?_ | refine Le.loop fun _ => ?_ | refine Le.sum (fun _ => ?_) (fun _ => ?_) | intro _)
def cReportRight (n : Nat) (sA : SizeSize) (view : Int) (lA : List ApiReport) : Option Bool :=
 bd (
   bd ((cSizeRight n) sA) fun rA =>
   if !rA then
   some true
   else
   bd ((cSizeMost n) sA) fun rA1 =>
   some (!decide ((lA.length : Int) = rA1)) : Option Bool) fun w =>
 if w then
 some false
 else
 bd (LoopC n ((cReportRightL1 n) sA view lA) ((-1), 0)) fun w1 =>
 match w1 with
 | .inl p1 =>
   some true
 | .inr p2 =>
   some p2
theorem leReportRight (n : Nat) (sA : SizeSize) (view : Int) (lA : List ApiReport) : Le (cReportRight n sA view lA) (tReportRight sA view lA) := by
  unfold cReportRight tReportRight
  repeat' (first | exact Le.rfl' _ | apply leSizeSizePair | apply leSizeSizeOf | apply leSizeN | apply leSizeRight | apply leAcceptorNew | apply leAcceptorTell | apply leAcceptorEnter | apply leSizeMost | apply leSizeProof | apply leTallyMay | apply leTallyRight | apply leTallyVoters | apply leTallyCount | apply leProofRight | apply leProofOf | apply leReportProved | apply leReportMay | apply leReportRightL1 | refine Le.bd ?_ fun _ => ?_ | refine Le.ite ?_ ?_ | refine Le.ix fun _ => ?_ | refine Le.loop fun _ => ?_ | refine Le.sum (fun _ => ?_) (fun _ => ?_) | intro _)
def cSizeVouch (n : Nat) (sA : SizeSize) : Option Int :=
 bd ((cSizeSizeOf n) sA (4607182418800017408, 4607182418800017408)) fun rA =>
 some rA
theorem leSizeVouch (n : Nat) (sA : SizeSize) : Le (cSizeVouch n sA) (tSizeVouch sA) := by
  unfold cSizeVouch tSizeVouch
  repeat' (first | exact Le.rfl' _ | apply leSizeSizePair | apply leSizeSizeOf | apply leSizeN | apply leSizeRight | apply leAcceptorNew | apply leAcceptorTell | apply leAcceptorEnter | apply leSizeMost | apply leSizeProof | apply leTallyMay | apply leTallyRight | apply leTallyVoters | apply leTallyCount | apply leProofRight | apply leProofOf | apply leReportProved | apply leReportMay | apply leReportRight | refine Le.bd ?_ fun _ => ?_ | refine Le.ite ?_ ?_ | refine Le.ix fun _ => ?_ | refine Le.loop fun _ => ?_ | refine Le.sum (fun _ => ?_) (fun _ => ?_) | intro _)
def cReportBindsL1 (n : Nat) (a1 : List ApiReport) (st : Int × (List UInt8) × Int) : Option ((Int × (List UInt8) × Int) ⊕ (Int × (List UInt8))) :=
 if st.2.2 < (a1.length : Int) then
 ix a1 st.2.2 fun y =>
 bd ((cReportProved n) y) fun rA =>
 bd (
   if st.1 < rA then
   ix y.Proof 0 fun y1 =>
   some (rA, y1.Value)
   else
   some (st.1, st.2.1) : Option (Int × (List UInt8))) fun w1 =>
 some (.inl (w1.1, w1.2, IntKind.wrap .i64 (st.2.2 + 1)))
 else
 some (.inr (st.1, st.2.1))
theorem leReportBindsL1 (n : Nat) (a1 : List ApiReport) (st : Int × (List UInt8) × Int) : Le (cReportBindsL1 n a1 st) (tReportBindsL1 a1 st) := by
  unfold cReportBindsL1 tReportBindsL1
  repeat' (first | exact Le.rfl' _ | apply leSizeSizePair | apply leSizeSizeOf | apply leSizeN | apply leSizeRight | apply leAcceptorNew | apply leAcceptorTell | apply leAcceptorEnter | apply leSizeMost | apply leSizeProof | apply leTallyMay | apply leTallyRight | apply leTallyVoters | apply leTallyCount | apply leProofRight | apply leProofOf | apply leReportProved | apply leReportMay | apply leReportRight | apply leSizeVouch | refine Le.bd ?_ fun _ => ?_ | refine Le.ite ?_ ?_ | refine Le.ix fun _ => ?_ | refine Le.loop fun _ => ?_ | refine Le.sum (fun _ => ?_) (fun _ => ?_) | intro _)
def cReportBindsL2 (n : Nat) (a1 : List ApiReport) (w : Int × (List UInt8)) (st1 : (List MV) × Int) : Option (((List MV) × Int) ⊕ (List MV)) :=
 if st1.2 < (a1.length : Int) then
 ix a1 st1.2 fun y2 =>
 bd (
   if y2.Has then
   some (decide (w.1 < y2.View))
   else
   some false : Option Bool) fun w3 =>
 bd (
   if w3 then
   some (mset (ment st1.1 ([.s y2.Value] : List MV) (.i .i64 0)) (midx st1.1 ([.s y2.Value] : List MV)) (.i .i64 (IntKind.wrap .i64 ((mgetI st1.1 ([.s y2.Value] : List MV)) + 1))))
   else
   some st1.1 : Option (List MV)) fun w4 =>
 some (.inl (w4, IntKind.wrap .i64 (st1.2 + 1)))
 else
 some (.inr st1.1)
theorem leReportBindsL2 (n : Nat) (a1 : List ApiReport) (w : Int × (List UInt8)) (st1 : (List MV) × Int) : Le (cReportBindsL2 n a1 w st1) (tReportBindsL2 a1 w st1) := by
  unfold cReportBindsL2 tReportBindsL2
  repeat' (first | exact Le.rfl' _ | apply leSizeSizePair | apply leSizeSizeOf | apply leSizeN | apply leSizeRight | apply leAcceptorNew | apply leAcceptorTell | apply leAcceptorEnter | apply leSizeMost | apply leSizeProof | apply leTallyMay | apply leTallyRight | apply leTallyVoters | apply leTallyCount | apply leProofRight | apply leProofOf | apply leReportProved | apply leReportMay | apply leReportRight | apply leSizeVouch | apply leReportBindsL1 | refine Le.bd ?_ fun _ => ?_ | refine Le.ite ?_ ?_ | refine Le.ix fun _ => ?_ | refine Le.loop fun _ => ?_ | refine Le.sum (fun _ => ?_) (fun _ => ?_) | intro _)
def cReportBinds (n : Nat) (a : SizeSize) (a1 : List ApiReport) : Option ((List UInt8) × Bool) :=
 bd (LoopC n ((cReportBindsL1 n) a1) ((-1), ([] : List UInt8), 0)) fun w =>
 bd (LoopC n ((cReportBindsL2 n) a1 w) (([] : List MV), 0)) fun w2 =>
 none
theorem leReportBinds (n : Nat) (a : SizeSize) (a1 : List ApiReport) : Le (cReportBinds n a a1) (tReportBinds a a1) := by
  unfold cReportBinds tReportBinds
  repeat' (first | exact Le.rfl' _ | apply leSizeSizePair | apply leSizeSizeOf | apply leSizeN | apply leSizeRight | apply leAcceptorNew | apply leAcceptorTell | apply leAcceptorEnter | apply leSizeMost | apply leSizeProof | apply leTallyMay | apply leTallyRight | apply leTallyVoters | apply leTallyCount | apply leProofRight | apply leProofOf | apply leReportProved | apply leReportMay | apply leReportRight | apply leSizeVouch | apply leReportBindsL1 | apply leReportBindsL2 | refine Le.bd ?_ fun _ => ?_ | refine Le.ite ?_ ?_ | refine Le.ix fun _ => ?_ | refine Le.loop fun _ => ?_ | refine Le.sum (fun _ => ?_) (fun _ => ?_) | intro _)
def cReportVouches (n : Nat) (sA : SizeSize) (view : Int) (lA : List ApiReport) (value : List UInt8) : Option Bool :=
 bd ((cReportRight n) sA view lA) fun rA =>
 if !rA then
 some false
 else
 bd ((cReportBinds n) sA lA) fun rA1 =>
 bd (
   if !rA1.2 then
   some true
   else
   some (decide (rA1.1 = value)) : Option Bool) fun w =>
 some w
theorem leReportVouches (n : Nat) (sA : SizeSize) (view : Int) (lA : List ApiReport) (value : List UInt8) : Le (cReportVouches n sA view lA value) (tReportVouches sA view lA value) := by
  unfold cReportVouches tReportVouches
  repeat' (first | exact Le.rfl' _ | apply leSizeSizePair | apply leSizeSizeOf | apply leSizeN | apply leSizeRight | apply leAcceptorNew | apply leAcceptorTell | apply leAcceptorEnter | apply leSizeMost | apply leSizeProof | apply leTallyMay | apply leTallyRight | apply leTallyVoters | apply leTallyCount | apply leProofRight | apply leProofOf | apply leReportProved | apply leReportMay | apply leReportRight | apply leSizeVouch | apply leReportBinds | refine Le.bd ?_ fun _ => ?_ | refine Le.ite ?_ ?_ | refine Le.ix fun _ => ?_ | refine Le.loop fun _ => ?_ | refine Le.sum (fun _ => ?_) (fun _ => ?_) | intro _)
def cAcceptorPropose (n : Nat) (a : AcceptorAcceptor) (view : Int) (value : List UInt8) (cert : List ApiReport) : Option (AcceptorAcceptor × ApiAccept × Bool) :=
 bd (
   if !decide (view = a.View) then
   some true
   else
   if a.Has then
   if a.At = view then
   some true
   else
   some (decide ((6000 : Int) < (value.length : Int)))
   else
   some (decide ((6000 : Int) < (value.length : Int))) : Option Bool) fun w =>
 if w then
 some (a, (⟨0, 0, ([] : List UInt8)⟩ : ApiAccept), false)
 else
 bd (
   if view = 0 then
   some (decide ((cert.length : Int) = 0))
   else
   some false : Option Bool) fun w1 =>
 bd (
   if w1 then
   some (.inr (0, 0, 0, 0, false, 0, ([] : List UInt8), ([] : List ApiAccept), ([] : List ApiAccept), 0, 0, ([] : List UInt8)))
   else
   bd ((cReportVouches n) a.S view cert value) fun rA =>
   if !rA then
   some (.inl (a.S.F, a.S.T, a.Me, a.View, a.Has, a.At, a.Value, a.Proof, a.Votes.L, 0, 0, ([] : List UInt8), false))
   else
   some (.inr (0, 0, 0, 0, false, 0, ([] : List UInt8), ([] : List ApiAccept), ([] : List ApiAccept), 0, 0, ([] : List UInt8))) : Option ((Int × Int × Int × Int × Bool × Int × (List UInt8) × (List ApiAccept) × (List ApiAccept) × Int × Int × (List UInt8) × Bool) ⊕ (Int × Int × Int × Int × Bool × Int × (List UInt8) × (List ApiAccept) × (List ApiAccept) × Int × Int × (List UInt8)))) fun w2 =>
 match w2 with
 | .inl p1 =>
   some ((⟨(⟨p1.1, p1.2.1⟩ : SizeSize), p1.2.2.1, p1.2.2.2.1, p1.2.2.2.2.1, p1.2.2.2.2.2.1, p1.2.2.2.2.2.2.1, p1.2.2.2.2.2.2.2.1, (⟨p1.2.2.2.2.2.2.2.2.1⟩ : TallyTally)⟩ : AcceptorAcceptor), (⟨p1.2.2.2.2.2.2.2.2.2.1, p1.2.2.2.2.2.2.2.2.2.2.1, p1.2.2.2.2.2.2.2.2.2.2.2.1⟩ : ApiAccept), p1.2.2.2.2.2.2.2.2.2.2.2.2)
 | .inr p2 =>
   some ((⟨a.S, a.Me, a.View, true, view, value, a.Proof, a.Votes⟩ : AcceptorAcceptor), (⟨a.Me, view, value⟩ : ApiAccept), true)
theorem leAcceptorPropose (n : Nat) (a : AcceptorAcceptor) (view : Int) (value : List UInt8) (cert : List ApiReport) : Le (cAcceptorPropose n a view value cert) (tAcceptorPropose a view value cert) := by
  unfold cAcceptorPropose tAcceptorPropose
  repeat' (first | exact Le.rfl' _ | apply leSizeSizePair | apply leSizeSizeOf | apply leSizeN | apply leSizeRight | apply leAcceptorNew | apply leAcceptorTell | apply leAcceptorEnter | apply leSizeMost | apply leSizeProof | apply leTallyMay | apply leTallyRight | apply leTallyVoters | apply leTallyCount | apply leProofRight | apply leProofOf | apply leReportProved | apply leReportMay | apply leReportRight | apply leSizeVouch | apply leReportBinds | apply leReportVouches | refine Le.bd ?_ fun _ => ?_ | refine Le.ite ?_ ?_ | refine Le.ix fun _ => ?_ | refine Le.loop fun _ => ?_ | refine Le.sum (fun _ => ?_) (fun _ => ?_) | intro _)
def cL21Alive (n : Nat) : Option Bool :=
 bd ((cAcceptorNew n) (⟨1, 0⟩ : SizeSize) 2) fun rA =>
 bd ((cAcceptorPropose n) rA.1 0 ([120] : List UInt8) ([] : List ApiReport)) fun rA1 =>
 bd ((cAcceptorPropose n) rA1.1 0 ([121] : List UInt8) ([] : List ApiReport)) fun rA2 =>
 bd ((cAcceptorEnter n) rA1.1 3) fun rA3 =>
 bd (
   if rA.2 = 0 then
   if rA1.2.2 then
   if !rA2.2.2 then
   if rA3.2.2 then
   if rA1.2.1.By = 2 then
   if rA1.2.1.Value = ([120] : List UInt8) then
   if rA3.1.View = 3 then
   if rA3.2.1.For = 3 then
   some (decide (rA3.2.1.Value = ([120] : List UInt8)))
   else
   some false
   else
   some false
   else
   some false
   else
   some false
   else
   some false
   else
   some false
   else
   some false
   else
   some false : Option Bool) fun w =>
 some w
theorem leL21Alive (n : Nat) : Le (cL21Alive n) (tL21Alive) := by
  unfold cL21Alive tL21Alive
  repeat' (first | exact Le.rfl' _ | apply leSizeSizePair | apply leSizeSizeOf | apply leSizeN | apply leSizeRight | apply leAcceptorNew | apply leAcceptorTell | apply leAcceptorEnter | apply leSizeMost | apply leSizeProof | apply leTallyMay | apply leTallyRight | apply leTallyVoters | apply leTallyCount | apply leProofRight | apply leProofOf | apply leReportProved | apply leReportMay | apply leReportRight | apply leSizeVouch | apply leReportBinds | apply leReportVouches | apply leAcceptorPropose | refine Le.bd ?_ fun _ => ?_ | refine Le.ite ?_ ?_ | refine Le.ix fun _ => ?_ | refine Le.loop fun _ => ?_ | refine Le.sum (fun _ => ?_) (fun _ => ?_) | intro _)
theorem evL21Alive : tL21Alive = some true := leL21Alive 200 _ (by decide +kernel)
end Dn.S
