import Derived.Test.YtjblhgpbkfmkoaaDnD
/-
  The functions, on typed values. Conditions: none.
-/
open Go Dn
set_option linter.unusedVariables false
set_option linter.unusedSimpArgs false
set_option maxRecDepth 100000
namespace Dn.S
structure ApiAccept where
  By : Int
  View : Int
  Value : List UInt8
deriving DecidableEq
@[reducible] def lvApiAccept (x : ApiAccept) : List MV := [.i .i64 x.By, .i .i64 x.View, .s x.Value]
@[reducible] def encApiAccept (x : ApiAccept) : MV := .agg (lvApiAccept x)
structure SizeSize where
  F : Int
  T : Int
deriving DecidableEq
@[reducible] def lvSizeSize (x : SizeSize) : List MV := [.i .i64 x.F, .i .i64 x.T]
@[reducible] def encSizeSize (x : SizeSize) : MV := .agg (lvSizeSize x)
structure TallyTally where
  L : List ApiAccept
deriving DecidableEq
@[reducible] def lvTallyTally (x : TallyTally) : List MV := [.list (x.L.map encApiAccept)]
@[reducible] def encTallyTally (x : TallyTally) : MV := .agg (lvTallyTally x)
structure AcceptorAcceptor where
  S : SizeSize
  Me : Int
  View : Int
  Has : Bool
  At : Int
  Value : List UInt8
  Proof : List ApiAccept
  Votes : TallyTally
deriving DecidableEq
@[reducible] def lvAcceptorAcceptor (x : AcceptorAcceptor) : List MV := [.i .i64 x.S.F, .i .i64 x.S.T, .i .i64 x.Me, .i .i64 x.View, .b x.Has, .i .i64 x.At, .s x.Value, .list (x.Proof.map encApiAccept), .list (x.Votes.L.map encApiAccept)]
@[reducible] def encAcceptorAcceptor (x : AcceptorAcceptor) : MV := .agg (lvAcceptorAcceptor x)
structure ApiReport where
  By : Int
  For : Int
  Has : Bool
  View : Int
  Value : List UInt8
  Proof : List ApiAccept
deriving DecidableEq
@[reducible] def lvApiReport (x : ApiReport) : List MV := [.i .i64 x.By, .i .i64 x.For, .b x.Has, .i .i64 x.View, .s x.Value, .list (x.Proof.map encApiAccept)]
@[reducible] def encApiReport (x : ApiReport) : MV := .agg (lvApiReport x)
structure R07Size where
  F : Int
  T : Int
deriving DecidableEq
@[reducible] def lvR07Size (x : R07Size) : List MV := [.i .i64 x.F, .i .i64 x.T]
@[reducible] def encR07Size (x : R07Size) : MV := .agg (lvR07Size x)
structure R18Tally where
  L : List ApiAccept
deriving DecidableEq
@[reducible] def lvR18Tally (x : R18Tally) : List MV := [.list (x.L.map encApiAccept)]
@[reducible] def encR18Tally (x : R18Tally) : MV := .agg (lvR18Tally x)
structure R21Acceptor where
  S : R07Size
  Me : Int
  View : Int
  Has : Bool
  At : Int
  Value : List UInt8
  Proof : List ApiAccept
  Votes : R18Tally
deriving DecidableEq
@[reducible] def lvR21Acceptor (x : R21Acceptor) : List MV := [.i .i64 x.S.F, .i .i64 x.S.T, .i .i64 x.Me, .i .i64 x.View, .b x.Has, .i .i64 x.At, .s x.Value, .list (x.Proof.map encApiAccept), .list (x.Votes.L.map encApiAccept)]
@[reducible] def encR21Acceptor (x : R21Acceptor) : MV := .agg (lvR21Acceptor x)
structure LearnerLearner where
  S : SizeSize
  Accepts : TallyTally
  Commits : TallyTally
  Told : TallyTally
  Done : Bool
  Value : List UInt8
deriving DecidableEq
@[reducible] def lvLearnerLearner (x : LearnerLearner) : List MV := [.i .i64 x.S.F, .i .i64 x.S.T, .list (x.Accepts.L.map encApiAccept), .list (x.Commits.L.map encApiAccept), .list (x.Told.L.map encApiAccept), .b x.Done, .s x.Value]
@[reducible] def encLearnerLearner (x : LearnerLearner) : MV := .agg (lvLearnerLearner x)
structure R22Learner where
  S : R07Size
  Accepts : R18Tally
  Commits : R18Tally
  Told : R18Tally
  Done : Bool
  Value : List UInt8
deriving DecidableEq
@[reducible] def lvR22Learner (x : R22Learner) : List MV := [.i .i64 x.S.F, .i .i64 x.S.T, .list (x.Accepts.L.map encApiAccept), .list (x.Commits.L.map encApiAccept), .list (x.Told.L.map encApiAccept), .b x.Done, .s x.Value]
@[reducible] def encR22Learner (x : R22Learner) : MV := .agg (lvR22Learner x)
structure AcceptorTaker where
  b : List Int
  e : Int
deriving DecidableEq
@[reducible] def lvAcceptorTaker (x : AcceptorTaker) : List MV := [.list (x.b.map (MV.i .u8)), .i .i64 x.e]
@[reducible] def encAcceptorTaker (x : AcceptorTaker) : MV := .agg (lvAcceptorTaker x)
structure L22Word where
  Kind : Int
  By : Int
  A : ApiAccept
  P : List ApiAccept
deriving DecidableEq
@[reducible] def lvL22Word (x : L22Word) : List MV := [.i .i64 x.Kind, .i .i64 x.By, .i .i64 x.A.By, .i .i64 x.A.View, .s x.A.Value, .list (x.P.map encApiAccept)]
@[reducible] def encL22Word (x : L22Word) : MV := .agg (lvL22Word x)
structure L21Call where
  View : Int
  Value : List UInt8
  Cert : List ApiReport
  Vote : ApiAccept
deriving DecidableEq
@[reducible] def lvL21Call (x : L21Call) : List MV := [.i .i64 x.View, .s x.Value, .list (x.Cert.map encApiReport), .i .i64 x.Vote.By, .i .i64 x.Vote.View, .s x.Vote.Value]
@[reducible] def encL21Call (x : L21Call) : MV := .agg (lvL21Call x)
structure L21Act where
  Kind : Int
  C : L21Call
deriving DecidableEq
@[reducible] def lvL21Act (x : L21Act) : List MV := [.i .i64 x.Kind, .i .i64 x.C.View, .s x.C.Value, .list (x.C.Cert.map encApiReport), .i .i64 x.C.Vote.By, .i .i64 x.C.Vote.View, .s x.C.Vote.Value]
@[reducible] def encL21Act (x : L21Act) : MV := .agg (lvL21Act x)
noncomputable def tL21VotesL1 (lA : List ApiAccept) (st : Int) : Option (Int ⊕ (Unit ⊕ Bool)) :=
 if st < (lA.length : Int) then
 bd (
   if st = 40 then
   some true
   else
   ix lA st fun y =>
   some (decide ((6100 : Int) < (y.Value.length : Int))) : Option Bool) fun w1 =>
 if w1 then
 some (.inr (.inr false))
 else
 some (.inl (IntKind.wrap .i64 (st + 1)))
 else
 some (.inr (.inl ()))
noncomputable def tL21Votes (lA : List ApiAccept) : Option Bool :=
 bd (Loop (tL21VotesL1 lA) 0) fun w =>
 match w with
 | .inl p1 =>
   some true
 | .inr p2 =>
   some p2
noncomputable def tL21Few (a : AcceptorAcceptor) : Option Bool :=
 bd (
   if (a.Value.length : Int) ≤ 6100 then
   bd (tL21Votes a.Proof) fun rA =>
   if rA then
   bd (tL21Votes a.Votes.L) fun rA1 =>
   some rA1
   else
   some false
   else
   some false : Option Bool) fun w =>
 some w
noncomputable def tSizeSizePair (sA : SizeSize) : Option (Nat × Nat) :=
 some (FloatKind.nearest .f64 sA.F, FloatKind.nearest .f64 sA.T)
noncomputable def tSizeSizeOf (sA : SizeSize) (times : Nat × Nat) : Option Int :=
 bd (tSizeSizePair sA) fun rA =>
 bd (FloatKind.f64.format.mul rA.1 times.1) fun f =>
 bd (FloatKind.f64.format.mul rA.2 times.2) fun f1 =>
 bd (FloatKind.f64.format.add f f1) fun f2 =>
 bd ((FloatKind.decode .f64 f2).toInt .zero) fun n =>
 if IntKind.min .i64 ≤ n ∧ n ≤ IntKind.max .i64 then
 some (IntKind.wrap .i64 (n + 1))
 else none
noncomputable def tSizeN (sA : SizeSize) : Option Int :=
 bd (tSizeSizeOf sA (4613937818241073152, 4611686018427387904)) fun rA =>
 some rA
noncomputable def tSizeRight (sA : SizeSize) : Option Bool :=
 bd (
   if (1 : Int) ≤ sA.F then
   if sA.F ≤ 5 then
   if (0 : Int) ≤ sA.T then
   some (decide (sA.T ≤ sA.F))
   else
   some false
   else
   some false
   else
   some false : Option Bool) fun w =>
 some w
noncomputable def tAcceptorNew (sA : SizeSize) (me : Int) : Option (AcceptorAcceptor × Int) :=
 bd (
   bd (tSizeRight sA) fun rA =>
   if !rA then
   some true
   else
   if me < 0 then
   some true
   else
   bd (tSizeN sA) fun rA1 =>
   some (decide (rA1 ≤ me)) : Option Bool) fun w =>
 if w then
 some ((⟨(⟨0, 0⟩ : SizeSize), 0, 0, false, 0, ([] : List UInt8), ([] : List ApiAccept), (⟨([] : List ApiAccept)⟩ : TallyTally)⟩ : AcceptorAcceptor), 1)
 else
 some ((⟨sA, me, 0, false, 0, ([] : List UInt8), ([] : List ApiAccept), (⟨([] : List ApiAccept)⟩ : TallyTally)⟩ : AcceptorAcceptor), 0)
noncomputable def tAcceptorTell (a : AcceptorAcceptor) : Option ApiReport :=
 some (⟨a.Me, a.View, a.Has, a.At, a.Value, a.Proof⟩ : ApiReport)
noncomputable def tAcceptorEnter (a : AcceptorAcceptor) (view : Int) : Option (AcceptorAcceptor × ApiReport × Bool) :=
 bd (
   if view ≤ a.View then
   some true
   else
   some (decide ((100000 : Int) < view)) : Option Bool) fun w =>
 if w then
 some (a, (⟨0, 0, false, 0, ([] : List UInt8), ([] : List ApiAccept)⟩ : ApiReport), false)
 else
 bd (tAcceptorTell (⟨a.S, a.Me, view, a.Has, a.At, a.Value, a.Proof, (⟨([] : List ApiAccept)⟩ : TallyTally)⟩ : AcceptorAcceptor)) fun rA =>
 some ((⟨a.S, a.Me, view, a.Has, a.At, a.Value, a.Proof, (⟨([] : List ApiAccept)⟩ : TallyTally)⟩ : AcceptorAcceptor), rA, true)
noncomputable def tSizeMost (sA : SizeSize) : Option Int :=
 bd (tSizeSizeOf sA (4611686018427387904, 4611686018427387904)) fun rA =>
 some rA
noncomputable def tSizeProof (sA : SizeSize) : Option Int :=
 bd (tSizeSizeOf sA (4611686018427387904, 4607182418800017408)) fun rA =>
 some rA
noncomputable def tTallyMay (a : ApiAccept) : Option Bool :=
 bd (
   if (0 : Int) ≤ a.By then
   if (0 : Int) ≤ a.View then
   if a.View ≤ 100000 then
   some (decide ((a.Value.length : Int) ≤ 6000))
   else
   some false
   else
   some false
   else
   some false : Option Bool) fun w =>
 some w
noncomputable def tTallyRightL1 (t : TallyTally) (st : Int) : Option (Int ⊕ (Unit ⊕ Bool)) :=
 if st < (t.L.length : Int) then
 ix t.L st fun y =>
 bd (
   bd (tTallyMay y) fun rA =>
   if !rA then
   some true
   else
   if (0 : Int) < st then
   ix t.L (IntKind.wrap .i64 (st - 1)) fun y1 =>
   some (decide (y.By ≤ y1.By))
   else
   some false : Option Bool) fun w1 =>
 if w1 then
 some (.inr (.inr false))
 else
 some (.inl (IntKind.wrap .i64 (st + 1)))
 else
 some (.inr (.inl ()))
noncomputable def tTallyRight (t : TallyTally) : Option Bool :=
 bd (Loop (tTallyRightL1 t) 0) fun w =>
 match w with
 | .inl p1 =>
   some true
 | .inr p2 =>
   some p2
noncomputable def tTallyVotersL1 (t : TallyTally) (view : Int) (value : List UInt8) (st : (List ApiAccept) × Int) : Option (((List ApiAccept) × Int) ⊕ (List ApiAccept)) :=
 if st.2 < (t.L.length : Int) then
 ix t.L st.2 fun y =>
 bd (
   if y.View = view then
   some (decide (y.Value = value))
   else
   some false : Option Bool) fun w1 =>
 bd (
   if w1 then
   if (st.1.length + ([y] : List ApiAccept).length) * 32 ≤ 2 ^ 46 then
   some (st.1 ++ ([y] : List ApiAccept))
   else none
   else
   some st.1 : Option (List ApiAccept)) fun w2 =>
 some (.inl (w2, IntKind.wrap .i64 (st.2 + 1)))
 else
 some (.inr st.1)
noncomputable def tTallyVoters (t : TallyTally) (view : Int) (value : List UInt8) : Option (List ApiAccept) :=
 bd (Loop (tTallyVotersL1 t view value) (([] : List ApiAccept), 0)) fun w =>
 some w
noncomputable def tTallyCount (t : TallyTally) (view : Int) (value : List UInt8) : Option Int :=
 bd (tTallyVoters t view value) fun rA =>
 some (rA.length : Int)
noncomputable def tProofRight (sA : SizeSize) (p : List ApiAccept) : Option Bool :=
 bd (
   bd (tSizeRight sA) fun rA =>
   if !rA then
   some true
   else
   bd (tSizeProof sA) fun rA1 =>
   if !decide ((p.length : Int) = rA1) then
   some true
   else
   bd (tTallyRight (⟨p⟩ : TallyTally)) fun rA2 =>
   some (!rA2) : Option Bool) fun w =>
 if w then
 some false
 else
 bd (
   ix p (IntKind.wrap .i64 ((p.length : Int) - 1)) fun y =>
   bd (tSizeN sA) fun rA3 =>
   if y.By < rA3 then
   ix p 0 fun y1 =>
   ix p 0 fun y2 =>
   bd (tTallyCount (⟨p⟩ : TallyTally) y1.View y2.Value) fun rA4 =>
   some (decide (rA4 = (p.length : Int)))
   else
   some false : Option Bool) fun w1 =>
 some w1
noncomputable def tProofOf (p : List ApiAccept) : Option (Int × (List UInt8) × Bool) :=
 if (p.length : Int) = 0 then
 some ((-1), ([] : List UInt8), false)
 else
 ix p 0 fun y =>
 ix p 0 fun y1 =>
 some (y.View, y1.Value, true)
noncomputable def tReportProved (rA : ApiReport) : Option Int :=
 bd (tProofOf rA.Proof) fun rA1 =>
 if !rA1.2.2 then
 some (-1)
 else
 some rA1.1
noncomputable def tReportMay (a : SizeSize) (a1 : ApiReport) : Option Bool :=
 bd (
   bd (tSizeRight a) fun rA =>
   if !rA then
   some true
   else
   if a1.By < 0 then
   some true
   else
   bd (tSizeN a) fun rA1 =>
   if rA1 ≤ a1.By then
   some true
   else
   if a1.For < 1 then
   some true
   else
   some (decide ((100000 : Int) < a1.For)) : Option Bool) fun w =>
 if w then
 some false
 else
 bd (
   if !a1.Has then
   if !decide (a1.View = 0) then
   some true
   else
   some (!decide (a1.Value = ([] : List UInt8)))
   else
   some false : Option Bool) fun w1 =>
 if w1 then
 some false
 else
 bd (
   if a1.Has then
   if a1.View < 0 then
   some true
   else
   if a1.For ≤ a1.View then
   some true
   else
   some (decide ((6000 : Int) < (a1.Value.length : Int)))
   else
   some false : Option Bool) fun w2 =>
 if w2 then
 some false
 else
 bd (
   if (a1.Proof.length : Int) = 0 then
   some true
   else
   bd (tProofRight a a1.Proof) fun rA2 =>
   if rA2 then
   bd (tReportProved a1) fun rA3 =>
   some (decide (rA3 < a1.For))
   else
   some false : Option Bool) fun w3 =>
 some w3
noncomputable def tReportRightL1 (sA : SizeSize) (view : Int) (lA : List ApiReport) (st : Int × Int) : Option ((Int × Int) ⊕ (Unit ⊕ Bool)) :=
 if st.2 < (lA.length : Int) then
 ix lA st.2 fun y =>
 bd (
   bd (tReportMay sA y) fun rA2 =>
   if !rA2 then
   some true
   else
   if !decide (y.For = view) then
   some true
   else
   some (decide (y.By ≤ st.1)) : Option Bool) fun w2 =>
 if w2 then
 some (.inr (.inr false))
 else
 some (.inl (y.By, IntKind.wrap .i64 (st.2 + 1)))
 else
 some (.inr (.inl ()))
noncomputable def tReportRight (sA : SizeSize) (view : Int) (lA : List ApiReport) : Option Bool :=
 bd (
   bd (tSizeRight sA) fun rA =>
   if !rA then
   some true
   else
   bd (tSizeMost sA) fun rA1 =>
   some (!decide ((lA.length : Int) = rA1)) : Option Bool) fun w =>
 if w then
 some false
 else
 bd (Loop (tReportRightL1 sA view lA) ((-1), 0)) fun w1 =>
 match w1 with
 | .inl p1 =>
   some true
 | .inr p2 =>
   some p2
noncomputable def tSizeVouch (sA : SizeSize) : Option Int :=
 bd (tSizeSizeOf sA (4607182418800017408, 4607182418800017408)) fun rA =>
 some rA
noncomputable def tReportBindsL1 (a1 : List ApiReport) (st : Int × (List UInt8) × Int) : Option ((Int × (List UInt8) × Int) ⊕ (Int × (List UInt8))) :=
 if st.2.2 < (a1.length : Int) then
 ix a1 st.2.2 fun y =>
 bd (tReportProved y) fun rA =>
 bd (
   if st.1 < rA then
   ix y.Proof 0 fun y1 =>
   some (rA, y1.Value)
   else
   some (st.1, st.2.1) : Option (Int × (List UInt8))) fun w1 =>
 some (.inl (w1.1, w1.2, IntKind.wrap .i64 (st.2.2 + 1)))
 else
 some (.inr (st.1, st.2.1))
noncomputable def tReportBindsL2 (a1 : List ApiReport) (w : Int × (List UInt8)) (st1 : (List MV) × Int) : Option (((List MV) × Int) ⊕ (List MV)) :=
 if st1.2 < (a1.length : Int) then
 ix a1 st1.2 fun y2 =>
 bd (
   if y2.Has then
   some (decide (w.1 < y2.View))
   else
   some false : Option Bool) fun w3 =>
 bd (
   if w3 then
   some (mset (ment st1.1 ([.s y2.Value] : List MV) (.i .i64 0)) (midx st1.1 ([.s y2.Value] : List MV)) (.i .i64 (IntKind.wrap .i64 ((mgetI st1.1 ([.s y2.Value] : List MV)) + 1))))
   else
   some st1.1 : Option (List MV)) fun w4 =>
 some (.inl (w4, IntKind.wrap .i64 (st1.2 + 1)))
 else
 some (.inr st1.1)
noncomputable def tReportBindsL3 (a : SizeSize) (m29 : MV) : Option (Unit ⊕ (Unit ⊕ ((List UInt8) × Bool))) :=
 entT m29 fun key n =>
 bd (tSizeVouch a) fun rA1 =>
 if rA1 ≤ n then
 some (.inr (.inr (key, true)))
 else
 some (.inl ())
noncomputable def tReportBinds (a : SizeSize) (a1 : List ApiReport) : Option ((List UInt8) × Bool) :=
 bd (Loop (tReportBindsL1 a1) ((-1), ([] : List UInt8), 0)) fun w =>
 bd (Loop (tReportBindsL2 a1 w) (([] : List MV), 0)) fun w2 =>
 bd (RangeM (tReportBindsL3 a) (
   some (.inl ())) w2) fun w5 =>
 match w5 with
 | .inl p5 =>
   some (w.2, decide (((-1) : Int) < w.1))
 | .inr p6 =>
   some (p6.1, p6.2)
noncomputable def tReportVouches (sA : SizeSize) (view : Int) (lA : List ApiReport) (value : List UInt8) : Option Bool :=
 bd (tReportRight sA view lA) fun rA =>
 if !rA then
 some false
 else
 bd (tReportBinds sA lA) fun rA1 =>
 bd (
   if !rA1.2 then
   some true
   else
   some (decide (rA1.1 = value)) : Option Bool) fun w =>
 some w
noncomputable def tAcceptorPropose (a : AcceptorAcceptor) (view : Int) (value : List UInt8) (cert : List ApiReport) : Option (AcceptorAcceptor × ApiAccept × Bool) :=
 bd (
   if !decide (view = a.View) then
   some true
   else
   if a.Has then
   if a.At = view then
   some true
   else
   some (decide ((6000 : Int) < (value.length : Int)))
   else
   some (decide ((6000 : Int) < (value.length : Int))) : Option Bool) fun w =>
 if w then
 some (a, (⟨0, 0, ([] : List UInt8)⟩ : ApiAccept), false)
 else
 bd (
   if view = 0 then
   some (decide ((cert.length : Int) = 0))
   else
   some false : Option Bool) fun w1 =>
 bd (
   if w1 then
   some (.inr (0, 0, 0, 0, false, 0, ([] : List UInt8), ([] : List ApiAccept), ([] : List ApiAccept), 0, 0, ([] : List UInt8)))
   else
   bd (tReportVouches a.S view cert value) fun rA =>
   if !rA then
   some (.inl (a.S.F, a.S.T, a.Me, a.View, a.Has, a.At, a.Value, a.Proof, a.Votes.L, 0, 0, ([] : List UInt8), false))
   else
   some (.inr (0, 0, 0, 0, false, 0, ([] : List UInt8), ([] : List ApiAccept), ([] : List ApiAccept), 0, 0, ([] : List UInt8))) : Option ((Int × Int × Int × Int × Bool × Int × (List UInt8) × (List ApiAccept) × (List ApiAccept) × Int × Int × (List UInt8) × Bool) ⊕ (Int × Int × Int × Int × Bool × Int × (List UInt8) × (List ApiAccept) × (List ApiAccept) × Int × Int × (List UInt8)))) fun w2 =>
 match w2 with
 | .inl p1 =>
   some ((⟨(⟨p1.1, p1.2.1⟩ : SizeSize), p1.2.2.1, p1.2.2.2.1, p1.2.2.2.2.1, p1.2.2.2.2.2.1, p1.2.2.2.2.2.2.1, p1.2.2.2.2.2.2.2.1, (⟨p1.2.2.2.2.2.2.2.2.1⟩ : TallyTally)⟩ : AcceptorAcceptor), (⟨p1.2.2.2.2.2.2.2.2.2.1, p1.2.2.2.2.2.2.2.2.2.2.1, p1.2.2.2.2.2.2.2.2.2.2.2.1⟩ : ApiAccept), p1.2.2.2.2.2.2.2.2.2.2.2.2)
 | .inr p2 =>
   some ((⟨a.S, a.Me, a.View, true, view, value, a.Proof, a.Votes⟩ : AcceptorAcceptor), (⟨a.Me, view, value⟩ : ApiAccept), true)
noncomputable def tL21Alive : Option Bool :=
 bd (tAcceptorNew (⟨1, 0⟩ : SizeSize) 2) fun rA =>
 bd (tAcceptorPropose rA.1 0 ([120] : List UInt8) ([] : List ApiReport)) fun rA1 =>
 bd (tAcceptorPropose rA1.1 0 ([121] : List UInt8) ([] : List ApiReport)) fun rA2 =>
 bd (tAcceptorEnter rA1.1 3) fun rA3 =>
 bd (
   if rA.2 = 0 then
   if rA1.2.2 then
   if !rA2.2.2 then
   if rA3.2.2 then
   if rA1.2.1.By = 2 then
   if rA1.2.1.Value = ([120] : List UInt8) then
   if rA3.1.View = 3 then
   if rA3.2.1.For = 3 then
   some (decide (rA3.2.1.Value = ([120] : List UInt8)))
   else
   some false
   else
   some false
   else
   some false
   else
   some false
   else
   some false
   else
   some false
   else
   some false
   else
   some false : Option Bool) fun w =>
 some w
noncomputable def tR07Right (sA : R07Size) : Option Bool :=
 bd (
   if (1 : Int) ≤ sA.F then
   if sA.F ≤ 5 then
   if (0 : Int) ≤ sA.T then
   some (decide (sA.T ≤ sA.F))
   else
   some false
   else
   some false
   else
   some false : Option Bool) fun w =>
 some w
noncomputable def tR07N (sA : R07Size) : Option Int :=
 some (IntKind.wrap .i64 ((IntKind.wrap .i64 ((IntKind.wrap .i64 (3 * sA.F)) + (IntKind.wrap .i64 (2 * sA.T)))) + 1))
noncomputable def tR21New (sA : R07Size) (me : Int) : Option (R21Acceptor × Int) :=
 bd (
   bd (tR07Right sA) fun rA =>
   if !rA then
   some true
   else
   if me < 0 then
   some true
   else
   bd (tR07N sA) fun rA1 =>
   some (decide (rA1 ≤ me)) : Option Bool) fun w =>
 if w then
 some ((⟨(⟨0, 0⟩ : R07Size), 0, 0, false, 0, ([] : List UInt8), ([] : List ApiAccept), (⟨([] : List ApiAccept)⟩ : R18Tally)⟩ : R21Acceptor), 1)
 else
 some ((⟨sA, me, 0, false, 0, ([] : List UInt8), ([] : List ApiAccept), (⟨([] : List ApiAccept)⟩ : R18Tally)⟩ : R21Acceptor), 0)
noncomputable def tL21Sized (sA : SizeSize) : Option R07Size :=
 some (⟨sA.F, sA.T⟩ : R07Size)
noncomputable def tR18SameL1 (a : List ApiAccept) (b : List ApiAccept) (st : Int) : Option (Int ⊕ (Unit ⊕ Bool)) :=
 if st < (a.length : Int) then
 ix a st fun y =>
 ix b st fun y1 =>
 if !((decide (y.By = y1.By)) && ((decide (y.View = y1.View)) && (decide (y.Value = y1.Value)))) then
 some (.inr (.inr false))
 else
 some (.inl (IntKind.wrap .i64 (st + 1)))
 else
 some (.inr (.inl ()))
noncomputable def tR18Same (a : List ApiAccept) (b : List ApiAccept) : Option Bool :=
 if !decide ((a.length : Int) = (b.length : Int)) then
 some false
 else
 bd (Loop (tR18SameL1 a b) 0) fun w =>
 match w with
 | .inl p1 =>
   some true
 | .inr p2 =>
   some p2
noncomputable def tR21Same (a : R21Acceptor) (b : R21Acceptor) : Option Bool :=
 bd (
   if ((decide (a.S.F = b.S.F)) && (decide (a.S.T = b.S.T))) then
   if a.Me = b.Me then
   if a.View = b.View then
   if a.Has = b.Has then
   if a.At = b.At then
   some (decide (a.Value = b.Value))
   else
   some false
   else
   some false
   else
   some false
   else
   some false
   else
   some false : Option Bool) fun w =>
 bd (
   if w then
   bd (tR18Same a.Proof b.Proof) fun rA =>
   if rA then
   bd (tR18Same a.Votes.L b.Votes.L) fun rA1 =>
   some rA1
   else
   some false
   else
   some false : Option Bool) fun w1 =>
 some w1
noncomputable def tL21Plain (a : AcceptorAcceptor) : Option R21Acceptor :=
 bd (tL21Sized a.S) fun rA =>
 some (⟨rA, a.Me, a.View, a.Has, a.At, a.Value, a.Proof, (⟨a.Votes.L⟩ : R18Tally)⟩ : R21Acceptor)
noncomputable def tSlicesEqualApiAcceptL1 (s1 : List ApiAccept) (s2 : List ApiAccept) (st : Int) : Option (Int ⊕ (Unit ⊕ Bool)) :=
 if st < (s1.length : Int) then
 ix s1 st fun y =>
 ix s2 st fun y1 =>
 if !((decide (y.By = y1.By)) && ((decide (y.View = y1.View)) && (decide (y.Value = y1.Value)))) then
 some (.inr (.inr false))
 else
 some (.inl (IntKind.wrap .i64 (st + 1)))
 else
 some (.inr (.inl ()))
noncomputable def tSlicesEqualApiAccept (s1 : List ApiAccept) (s2 : List ApiAccept) : Option Bool :=
 if !decide ((s1.length : Int) = (s2.length : Int)) then
 some false
 else
 bd (Loop (tSlicesEqualApiAcceptL1 s1 s2) 0) fun w =>
 match w with
 | .inl p1 =>
   some true
 | .inr p2 =>
   some p2
noncomputable def tTallySame (a : List ApiAccept) (b : List ApiAccept) : Option Bool :=
 bd (tSlicesEqualApiAccept a b) fun rA =>
 some rA
noncomputable def tAcceptorSame (a : AcceptorAcceptor) (b : AcceptorAcceptor) : Option Bool :=
 bd (
   if ((decide (a.S.F = b.S.F)) && (decide (a.S.T = b.S.T))) then
   if a.Me = b.Me then
   if a.View = b.View then
   if a.Has = b.Has then
   if a.At = b.At then
   some (decide (a.Value = b.Value))
   else
   some false
   else
   some false
   else
   some false
   else
   some false
   else
   some false : Option Bool) fun w =>
 bd (
   if w then
   bd (tTallySame a.Proof b.Proof) fun rA =>
   if rA then
   bd (tTallySame a.Votes.L b.Votes.L) fun rA1 =>
   some rA1
   else
   some false
   else
   some false : Option Bool) fun w1 =>
 some w1
noncomputable def tR18May (a : ApiAccept) : Option Bool :=
 bd (
   if (0 : Int) ≤ a.By then
   if (0 : Int) ≤ a.View then
   if a.View ≤ 100000 then
   some (decide ((a.Value.length : Int) ≤ 6000))
   else
   some false
   else
   some false
   else
   some false : Option Bool) fun w =>
 some w
noncomputable def tR18RightL1 (t : R18Tally) (st : Int) : Option (Int ⊕ (Unit ⊕ Bool)) :=
 if st < (t.L.length : Int) then
 bd (
   ix t.L st fun y =>
   bd (tR18May y) fun rA =>
   if !rA then
   some true
   else
   if (0 : Int) < st then
   ix t.L (IntKind.wrap .i64 (st - 1)) fun y1 =>
   ix t.L st fun y2 =>
   some (decide (y2.By ≤ y1.By))
   else
   some false : Option Bool) fun w1 =>
 if w1 then
 some (.inr (.inr false))
 else
 some (.inl (IntKind.wrap .i64 (st + 1)))
 else
 some (.inr (.inl ()))
noncomputable def tR18Right (t : R18Tally) : Option Bool :=
 bd (Loop (tR18RightL1 t) 0) fun w =>
 match w with
 | .inl p1 =>
   some true
 | .inr p2 =>
   some p2
noncomputable def tR07Proof (sA : R07Size) : Option Int :=
 some (IntKind.wrap .i64 ((IntKind.wrap .i64 ((IntKind.wrap .i64 (2 * sA.F)) + sA.T)) + 1))
noncomputable def tR19RightL1 (a : R07Size) (a1 : List ApiAccept) (st : Int) : Option (Int ⊕ (Unit ⊕ Bool)) :=
 if st < (a1.length : Int) then
 ix a1 st fun y =>
 bd (
   bd (tR18May y) fun rA2 =>
   if !rA2 then
   some true
   else
   bd (tR07N a) fun rA3 =>
   if rA3 ≤ y.By then
   some true
   else
   ix a1 0 fun y1 =>
   if !decide (y.View = y1.View) then
   some true
   else
   ix a1 0 fun y2 =>
   if !decide (y.Value = y2.Value) then
   some true
   else
   if (0 : Int) < st then
   ix a1 (IntKind.wrap .i64 (st - 1)) fun y3 =>
   some (decide (y.By ≤ y3.By))
   else
   some false : Option Bool) fun w2 =>
 if w2 then
 some (.inr (.inr false))
 else
 some (.inl (IntKind.wrap .i64 (st + 1)))
 else
 some (.inr (.inl ()))
noncomputable def tR19Right (a : R07Size) (a1 : List ApiAccept) : Option Bool :=
 bd (
   bd (tR07Right a) fun rA =>
   if !rA then
   some true
   else
   bd (tR07Proof a) fun rA1 =>
   some (!decide ((a1.length : Int) = rA1)) : Option Bool) fun w =>
 if w then
 some false
 else
 bd (Loop (tR19RightL1 a a1) 0) fun w1 =>
 match w1 with
 | .inl p1 =>
   some true
 | .inr p2 =>
   some p2
noncomputable def tR21RightL1 (a : R21Acceptor) (st : Int) : Option (Int ⊕ (Unit ⊕ Bool)) :=
 if st < (a.Votes.L.length : Int) then
 bd (
   ix a.Votes.L st fun y1 =>
   bd (tR07N a.S) fun rA3 =>
   if rA3 ≤ y1.By then
   some true
   else
   ix a.Votes.L st fun y2 =>
   some (!decide (y2.View = a.View)) : Option Bool) fun w4 =>
 if w4 then
 some (.inr (.inr false))
 else
 some (.inl (IntKind.wrap .i64 (st + 1)))
 else
 some (.inr (.inl ()))
noncomputable def tR21Right (a : R21Acceptor) : Option Bool :=
 bd (tR21New a.S a.Me) fun rA =>
 bd (
   if !decide (rA.2 = 0) then
   some true
   else
   if a.View < 0 then
   some true
   else
   if (100000 : Int) < a.View then
   some true
   else
   bd (tR18Right a.Votes) fun rA1 =>
   some (!rA1) : Option Bool) fun w =>
 if w then
 some false
 else
 bd (
   if a.Has then
   if a.At < 0 then
   some true
   else
   if a.View < a.At then
   some true
   else
   if (6000 : Int) < (a.Value.length : Int) then
   some true
   else
   if !a.Has then
   if !decide (a.At = 0) then
   some true
   else
   some (!decide (a.Value = ([] : List UInt8)))
   else
   some false
   else
   if !a.Has then
   if !decide (a.At = 0) then
   some true
   else
   some (!decide (a.Value = ([] : List UInt8)))
   else
   some false : Option Bool) fun w1 =>
 if w1 then
 some false
 else
 bd (
   if (0 : Int) < (a.Proof.length : Int) then
   bd (tR19Right a.S a.Proof) fun rA2 =>
   if !rA2 then
   some true
   else
   ix a.Proof 0 fun y =>
   some (decide (a.View < y.View))
   else
   some false : Option Bool) fun w2 =>
 if w2 then
 some false
 else
 bd (Loop (tR21RightL1 a) 0) fun w3 =>
 match w3 with
 | .inl p1 =>
   some true
 | .inr p2 =>
   some p2
noncomputable def tR20One (a : ApiReport) (b : ApiReport) : Option Bool :=
 bd (
   if a.By = b.By then
   if a.For = b.For then
   if a.Has = b.Has then
   if a.View = b.View then
   if a.Value = b.Value then
   bd (tR18Same a.Proof b.Proof) fun rA =>
   some rA
   else
   some false
   else
   some false
   else
   some false
   else
   some false
   else
   some false : Option Bool) fun w =>
 some w
noncomputable def tR21Tell (a : R21Acceptor) : Option ApiReport :=
 some (⟨a.Me, a.View, a.Has, a.At, a.Value, a.Proof⟩ : ApiReport)
noncomputable def tCmpIsNaNInt (x : Int) : Option Bool :=
 some (!decide (x = x))
noncomputable def tCmpCompareInt (x : Int) (y : Int) : Option Int :=
 bd (tCmpIsNaNInt x) fun rA =>
 bd (tCmpIsNaNInt y) fun rA1 =>
 if rA then
 if rA1 then
 some 0
 else
 some (-1)
 else
 if rA1 then
 some 1
 else
 if x < y then
 some (-1)
 else
 if y < x then
 some 1
 else
 some 0
noncomputable def tTallyAddF1 (x : ApiAccept) (byA : Int) : Option Int :=
 bd (tCmpCompareInt x.By byA) fun rA =>
 some rA
noncomputable def tSlicesBinarySearchFuncApiAcceptIntL1 (x : List ApiAccept) (target : Int) (cmp : ApiAccept → Int → Option Int) (st : Int × Int) : Option ((Int × Int) ⊕ Int) :=
 if st.1 < st.2 then
 if (0 : Int) ≤ 1 then
 ix x (IntKind.wrap .i64 (Int.fdiv (IntKind.wrap .u64 (IntKind.wrap .i64 (st.1 + st.2))) (2 ^ min (Int.toNat 1) (IntKind.bits .u64)))) fun y =>
 bd (cmp y target) fun rA =>
 bd (
   if rA < 0 then
   some (IntKind.wrap .i64 ((IntKind.wrap .i64 (Int.fdiv (IntKind.wrap .u64 (IntKind.wrap .i64 (st.1 + st.2))) (2 ^ min (Int.toNat 1) (IntKind.bits .u64)))) + 1), st.2)
   else
   some (st.1, IntKind.wrap .i64 (Int.fdiv (IntKind.wrap .u64 (IntKind.wrap .i64 (st.1 + st.2))) (2 ^ min (Int.toNat 1) (IntKind.bits .u64)))) : Option (Int × Int)) fun w1 =>
 some (.inl (w1.1, w1.2))
 else none
 else
 some (.inr st.1)
noncomputable def tSlicesBinarySearchFuncApiAcceptInt (x : List ApiAccept) (target : Int) (cmp : ApiAccept → Int → Option Int) : Option (Int × Bool) :=
 bd (Loop (tSlicesBinarySearchFuncApiAcceptIntL1 x target cmp) (0, (x.length : Int))) fun w =>
 bd (
   if w < (x.length : Int) then
   ix x w fun y1 =>
   bd (cmp y1 target) fun rA1 =>
   some (w, decide (rA1 = 0))
   else
   some (w, false) : Option (Int × Bool)) fun w2 =>
 some (w2.1, w2.2)
noncomputable def tTallyAdd (t : TallyTally) (a : ApiAccept) : Option (TallyTally × Bool) :=
 bd (tTallyMay a) fun rA =>
 if !rA then
 some (t, false)
 else
 bd (tSlicesBinarySearchFuncApiAcceptInt t.L a.By tTallyAddF1) fun rA1 =>
 bd (
   if rA1.2 then
   ix t.L rA1.1 fun y =>
   some (decide (a.View ≤ y.View))
   else
   some false : Option Bool) fun w =>
 if w then
 some (t, false)
 else
 bd (tClone 32 t.L) fun rA2 =>
 bd (
   if rA1.2 then
   ix rA2 rA1.1 fun y1 =>
   some (rA2.set (Int.toNat rA1.1) a)
   else
   bd (tInsert 32 rA2 rA1.1 ([a] : List ApiAccept)) fun rA3 =>
   some rA3 : Option (List ApiAccept)) fun w1 =>
 some ((⟨w1⟩ : TallyTally), true)
noncomputable def tTallyBestL1 (a : TallyTally) (st : (List MV) × Int) : Option (((List MV) × Int) ⊕ (List MV)) :=
 if st.2 < (a.L.length : Int) then
 ix a.L st.2 fun y =>
 if (0 : Int) ≤ (midx st.1 ([.i .i64 y.View, .s y.Value] : List MV) : Int) ∧ Int.toNat (midx st.1 ([.i .i64 y.View, .s y.Value] : List MV) : Int) < (ment st.1 ([.i .i64 y.View, .s y.Value] : List MV) (.i .i64 0)).length then
 some (.inl (mset (ment st.1 ([.i .i64 y.View, .s y.Value] : List MV) (.i .i64 0)) (Int.toNat (midx st.1 ([.i .i64 y.View, .s y.Value] : List MV) : Int)) (.i .i64 (IntKind.wrap .i64 ((mgetI st.1 ([.i .i64 y.View, .s y.Value] : List MV)) + 1))), IntKind.wrap .i64 (st.2 + 1)))
 else none
 else
 some (.inr st.1)
noncomputable def tTallyBestL2 (a : TallyTally) (a1 : Int) (w : (List MV)) (st1 : Int × (List UInt8) × Bool × Int) : Option ((Int × (List UInt8) × Bool × Int) ⊕ (Int × (List UInt8) × Bool)) :=
 if st1.2.2.2 < (a.L.length : Int) then
 ix a.L st1.2.2.2 fun y1 =>
 bd (
   if (1 : Int) ≤ a1 then
   if a1 ≤ (mgetI w ([.i .i64 y1.View, .s y1.Value] : List MV)) then
   some (decide (st1.1 < y1.View))
   else
   some false
   else
   some false : Option Bool) fun w2 =>
 bd (
   if w2 then
   some (y1.View, y1.Value, true)
   else
   some (st1.1, st1.2.1, st1.2.2.1) : Option (Int × (List UInt8) × Bool)) fun w3 =>
 some (.inl (w3.1, w3.2.1, w3.2.2, IntKind.wrap .i64 (st1.2.2.2 + 1)))
 else
 some (.inr (st1.1, st1.2.1, st1.2.2.1))
noncomputable def tTallyBest (a : TallyTally) (a1 : Int) : Option (Int × (List UInt8) × Bool) :=
 bd (Loop (tTallyBestL1 a) (([] : List MV), 0)) fun w =>
 bd (Loop (tTallyBestL2 a a1 w) ((-1), ([] : List UInt8), false, 0)) fun w1 =>
 if !w1.2.2 then
 some (0, ([] : List UInt8), false)
 else
 some (w1.1, w1.2.1, true)
noncomputable def tR18AddL1 (a : R18Tally) (a1 : ApiAccept) (st : (List ApiAccept) × (List ApiAccept) × Bool × Int) : Option (((List ApiAccept) × (List ApiAccept) × Bool × Int) ⊕ (((List ApiAccept) × (List ApiAccept) × Bool) ⊕ ((List ApiAccept) × Bool))) :=
 if st.2.2.2 < (a.L.length : Int) then
 ix a.L st.2.2.2 fun y =>
 bd (
   if y.By = a1.By then
   some (decide (a1.View ≤ y.View))
   else
   some false : Option Bool) fun w1 =>
 if w1 then
 some (.inr (.inr (a.L, false)))
 else
 bd (
   if !st.2.2.1 then
   some (decide (a1.By ≤ y.By))
   else
   some false : Option Bool) fun w2 =>
 bd (
   if w2 then
   if (st.2.1.length + ([a1] : List ApiAccept).length) * 32 ≤ 2 ^ 46 then
   some (st.2.1 ++ ([a1] : List ApiAccept), true)
   else none
   else
   some (st.2.1, st.2.2.1) : Option ((List ApiAccept) × Bool)) fun w3 =>
 bd (
   if !decide (y.By = a1.By) then
   if (w3.1.length + ([y] : List ApiAccept).length) * 32 ≤ 2 ^ 46 then
   some (w3.1 ++ ([y] : List ApiAccept))
   else none
   else
   some w3.1 : Option (List ApiAccept)) fun w4 =>
 some (.inl (st.1, w4, w3.2, IntKind.wrap .i64 (st.2.2.2 + 1)))
 else
 some (.inr (.inl (st.1, st.2.1, st.2.2.1)))
noncomputable def tR18Add (a : R18Tally) (a1 : ApiAccept) : Option (R18Tally × Bool) :=
 bd (tR18May a1) fun rA =>
 if !rA then
 some (a, false)
 else
 bd (Loop (tR18AddL1 a a1) (([] : List ApiAccept), ([] : List ApiAccept), false, 0)) fun w =>
 match w with
 | .inl p3 =>
   bd (
     if !p3.2.2 then
     if (p3.2.1.length + ([a1] : List ApiAccept).length) * 32 ≤ 2 ^ 46 then
     some (p3.2.1 ++ ([a1] : List ApiAccept))
     else none
     else
     some p3.2.1 : Option (List ApiAccept)) fun w5 =>
   some ((⟨w5⟩ : R18Tally), true)
 | .inr p4 =>
   some ((⟨p4.1⟩ : R18Tally), p4.2)
noncomputable def tR18VotersL1 (t : R18Tally) (view : Int) (value : List UInt8) (st : (List ApiAccept) × Int) : Option (((List ApiAccept) × Int) ⊕ (List ApiAccept)) :=
 if st.2 < (t.L.length : Int) then
 bd (
   ix t.L st.2 fun y =>
   if y.View = view then
   ix t.L st.2 fun y1 =>
   some (decide (y1.Value = value))
   else
   some false : Option Bool) fun w1 =>
 bd (
   if w1 then
   ix t.L st.2 fun y2 =>
   if (st.1.length + ([y2] : List ApiAccept).length) * 32 ≤ 2 ^ 46 then
   some (st.1 ++ ([y2] : List ApiAccept))
   else none
   else
   some st.1 : Option (List ApiAccept)) fun w2 =>
 some (.inl (w2, IntKind.wrap .i64 (st.2 + 1)))
 else
 some (.inr st.1)
noncomputable def tR18Voters (t : R18Tally) (view : Int) (value : List UInt8) : Option (List ApiAccept) :=
 bd (Loop (tR18VotersL1 t view value) (([] : List ApiAccept), 0)) fun w =>
 some w
noncomputable def tR18Count (t : R18Tally) (view : Int) (value : List UInt8) : Option Int :=
 bd (tR18Voters t view value) fun rA =>
 some (rA.length : Int)
noncomputable def tR18BestL1 (t : R18Tally) (need : Int) (st : Int × Int) : Option ((Int × Int) ⊕ Int) :=
 bd (
   if st.2 < (t.L.length : Int) then
   some (decide ((1 : Int) ≤ need))
   else
   some false : Option Bool) fun w1 =>
 if w1 then
 ix t.L st.2 fun y =>
 bd (
   bd (tR18Count t y.View y.Value) fun rA =>
   if need ≤ rA then
   if st.1 < 0 then
   some true
   else
   ix t.L st.1 fun y1 =>
   some (decide (y1.View < y.View))
   else
   some false : Option Bool) fun w2 =>
 bd (
   if w2 then
   some st.2
   else
   some st.1 : Option Int) fun w3 =>
 some (.inl (w3, IntKind.wrap .i64 (st.2 + 1)))
 else
 some (.inr st.1)
noncomputable def tR18Best (t : R18Tally) (need : Int) : Option (Int × (List UInt8) × Bool) :=
 bd (Loop (tR18BestL1 t need) ((-1), 0)) fun w =>
 if w < 0 then
 some (0, ([] : List UInt8), false)
 else
 ix t.L w fun y2 =>
 ix t.L w fun y3 =>
 some (y2.View, y3.Value, true)
noncomputable def tL21ShortL1 (lA : List ApiReport) (st : Int) : Option (Int ⊕ (Unit ⊕ Bool)) :=
 if st < (lA.length : Int) then
 bd (
   if st = 30 then
   some true
   else
   ix lA st fun y =>
   if (6100 : Int) < (y.Value.length : Int) then
   some true
   else
   ix lA st fun y1 =>
   bd (tL21Votes y1.Proof) fun rA =>
   some (!rA) : Option Bool) fun w1 =>
 if w1 then
 some (.inr (.inr false))
 else
 some (.inl (IntKind.wrap .i64 (st + 1)))
 else
 some (.inr (.inl ()))
noncomputable def tL21Short (lA : List ApiReport) : Option Bool :=
 bd (Loop (tL21ShortL1 lA) 0) fun w =>
 match w with
 | .inl p1 =>
   some true
 | .inr p2 =>
   some p2
noncomputable def tR21Enter (a : R21Acceptor) (view : Int) : Option (R21Acceptor × ApiReport × Bool) :=
 bd (
   if view ≤ a.View then
   some true
   else
   some (decide ((100000 : Int) < view)) : Option Bool) fun w =>
 if w then
 some (a, (⟨0, 0, false, 0, ([] : List UInt8), ([] : List ApiAccept)⟩ : ApiReport), false)
 else
 bd (tR21Tell (⟨a.S, a.Me, view, a.Has, a.At, a.Value, a.Proof, (⟨([] : List ApiAccept)⟩ : R18Tally)⟩ : R21Acceptor)) fun rA =>
 some ((⟨a.S, a.Me, view, a.Has, a.At, a.Value, a.Proof, (⟨([] : List ApiAccept)⟩ : R18Tally)⟩ : R21Acceptor), rA, true)
noncomputable def tR07Most (sA : R07Size) : Option Int :=
 some (IntKind.wrap .i64 ((IntKind.wrap .i64 ((IntKind.wrap .i64 (2 * sA.F)) + (IntKind.wrap .i64 (2 * sA.T)))) + 1))
noncomputable def tR20May (a : R07Size) (a1 : ApiReport) : Option Bool :=
 bd (
   bd (tR07Right a) fun rA =>
   if !rA then
   some true
   else
   if a1.By < 0 then
   some true
   else
   bd (tR07N a) fun rA1 =>
   if rA1 ≤ a1.By then
   some true
   else
   if a1.For < 1 then
   some true
   else
   some (decide ((100000 : Int) < a1.For)) : Option Bool) fun w =>
 if w then
 some false
 else
 bd (
   if a1.Has then
   if a1.View < 0 then
   some true
   else
   if a1.For ≤ a1.View then
   some true
   else
   if (6000 : Int) < (a1.Value.length : Int) then
   some true
   else
   if !a1.Has then
   if !decide (a1.View = 0) then
   some true
   else
   some (!decide (a1.Value = ([] : List UInt8)))
   else
   some false
   else
   if !a1.Has then
   if !decide (a1.View = 0) then
   some true
   else
   some (!decide (a1.Value = ([] : List UInt8)))
   else
   some false : Option Bool) fun w1 =>
 if w1 then
 some false
 else
 bd (
   if (a1.Proof.length : Int) = 0 then
   some true
   else
   bd (tR19Right a a1.Proof) fun rA2 =>
   if rA2 then
   ix a1.Proof 0 fun y =>
   some (decide (y.View < a1.For))
   else
   some false : Option Bool) fun w2 =>
 some w2
noncomputable def tR20RightL1 (sA : R07Size) (view : Int) (lA : List ApiReport) (st : Int) : Option (Int ⊕ (Unit ⊕ Bool)) :=
 if st < (lA.length : Int) then
 bd (
   ix lA st fun y =>
   bd (tR20May sA y) fun rA2 =>
   if !rA2 then
   some true
   else
   ix lA st fun y1 =>
   if !decide (y1.For = view) then
   some true
   else
   if (0 : Int) < st then
   ix lA (IntKind.wrap .i64 (st - 1)) fun y2 =>
   ix lA st fun y3 =>
   some (decide (y3.By ≤ y2.By))
   else
   some false : Option Bool) fun w2 =>
 if w2 then
 some (.inr (.inr false))
 else
 some (.inl (IntKind.wrap .i64 (st + 1)))
 else
 some (.inr (.inl ()))
noncomputable def tR20Right (sA : R07Size) (view : Int) (lA : List ApiReport) : Option Bool :=
 bd (
   bd (tR07Right sA) fun rA =>
   if !rA then
   some true
   else
   bd (tR07Most sA) fun rA1 =>
   some (!decide ((lA.length : Int) = rA1)) : Option Bool) fun w =>
 if w then
 some false
 else
 bd (Loop (tR20RightL1 sA view lA) 0) fun w1 =>
 match w1 with
 | .inl p1 =>
   some true
 | .inr p2 =>
   some p2
noncomputable def tR19Of (p : List ApiAccept) : Option (Int × (List UInt8) × Bool) :=
 if (p.length : Int) = 0 then
 some ((-1), ([] : List UInt8), false)
 else
 ix p 0 fun y =>
 ix p 0 fun y1 =>
 some (y.View, y1.Value, true)
noncomputable def tR07Vouch (sA : R07Size) : Option Int :=
 some (IntKind.wrap .i64 ((IntKind.wrap .i64 (sA.F + sA.T)) + 1))
noncomputable def tR20BindsL1 (a1 : List ApiReport) (st : Int × (List UInt8) × Int) : Option ((Int × (List UInt8) × Int) ⊕ (Int × (List UInt8))) :=
 if st.2.2 < (a1.length : Int) then
 ix a1 st.2.2 fun y =>
 bd (tR19Of y.Proof) fun rA =>
 bd (
   if rA.2.2 then
   some (decide (st.1 < rA.1))
   else
   some false : Option Bool) fun w1 =>
 bd (
   if w1 then
   some (rA.1, rA.2.1)
   else
   some (st.1, st.2.1) : Option (Int × (List UInt8))) fun w2 =>
 some (.inl (w2.1, w2.2, IntKind.wrap .i64 (st.2.2 + 1)))
 else
 some (.inr (st.1, st.2.1))
noncomputable def tR20BindsL2 (a1 : List ApiReport) (w : Int × (List UInt8)) (st1 : Int) (st2 : Int × Int) : Option ((Int × Int) ⊕ Int) :=
 if st2.2 < (a1.length : Int) then
 bd (
   ix a1 st2.2 fun y1 =>
   if y1.Has then
   ix a1 st2.2 fun y2 =>
   if w.1 < y2.View then
   ix a1 st1 fun y3 =>
   if y3.Has then
   ix a1 st1 fun y4 =>
   if w.1 < y4.View then
   ix a1 st2.2 fun y5 =>
   ix a1 st1 fun y6 =>
   some (decide (y5.Value = y6.Value))
   else
   some false
   else
   some false
   else
   some false
   else
   some false : Option Bool) fun w5 =>
 bd (
   if w5 then
   some (IntKind.wrap .i64 (st2.1 + 1))
   else
   some st2.1 : Option Int) fun w6 =>
 some (.inl (w6, IntKind.wrap .i64 (st2.2 + 1)))
 else
 some (.inr st2.1)
noncomputable def tR20BindsL3 (a : R07Size) (a1 : List ApiReport) (w : Int × (List UInt8)) (st1 : Int) : Option (Int ⊕ (Unit ⊕ ((List UInt8) × Bool))) :=
 if st1 < (a1.length : Int) then
 bd (Loop (tR20BindsL2 a1 w st1) (0, 0)) fun w4 =>
 bd (tR07Vouch a) fun rA1 =>
 if rA1 ≤ w4 then
 ix a1 st1 fun y7 =>
 some (.inr (.inr (y7.Value, true)))
 else
 some (.inl (IntKind.wrap .i64 (st1 + 1)))
 else
 some (.inr (.inl ()))
noncomputable def tR20Binds (a : R07Size) (a1 : List ApiReport) : Option ((List UInt8) × Bool) :=
 bd (Loop (tR20BindsL1 a1) ((-1), ([] : List UInt8), 0)) fun w =>
 bd (Loop (tR20BindsL3 a a1 w) 0) fun w3 =>
 match w3 with
 | .inl p5 =>
   some (w.2, decide ((0 : Int) ≤ w.1))
 | .inr p6 =>
   some (p6.1, p6.2)
noncomputable def tR20Vouches (sA : R07Size) (view : Int) (lA : List ApiReport) (value : List UInt8) : Option Bool :=
 bd (tR20Right sA view lA) fun rA =>
 if !rA then
 some false
 else
 bd (tR20Binds sA lA) fun rA1 =>
 bd (
   if !rA1.2 then
   some true
   else
   some (decide (rA1.1 = value)) : Option Bool) fun w =>
 some w
noncomputable def tR21Propose (a : R21Acceptor) (view : Int) (value : List UInt8) (cert : List ApiReport) : Option (R21Acceptor × ApiAccept × Bool) :=
 bd (
   if view = 0 then
   some (decide ((cert.length : Int) = 0))
   else
   some false : Option Bool) fun w =>
 bd (
   if !decide (view = a.View) then
   some true
   else
   if a.Has then
   if a.At = view then
   some true
   else
   if (6000 : Int) < (value.length : Int) then
   some true
   else
   if !w then
   bd (tR20Vouches a.S view cert value) fun rA =>
   some (!rA)
   else
   some false
   else
   if (6000 : Int) < (value.length : Int) then
   some true
   else
   if !w then
   bd (tR20Vouches a.S view cert value) fun rA1 =>
   some (!rA1)
   else
   some false : Option Bool) fun w1 =>
 if w1 then
 some (a, (⟨0, 0, ([] : List UInt8)⟩ : ApiAccept), false)
 else
 some ((⟨a.S, a.Me, a.View, true, view, value, a.Proof, a.Votes⟩ : R21Acceptor), (⟨a.Me, view, value⟩ : ApiAccept), true)
noncomputable def tProofMake (sA : SizeSize) (t : TallyTally) : Option ((List ApiAccept) × Bool) :=
 bd (tSizeProof sA) fun rA =>
 bd (tTallyBest t rA) fun rA1 =>
 if !rA1.2.2 then
 some (([] : List ApiAccept), false)
 else
 bd (tTallyVoters t rA1.1 rA1.2.1) fun rA2 =>
 bd (tSizeProof sA) fun rA3 =>
 if (0 : Int) ≤ 0 ∧ (0 : Int) ≤ rA3 ∧ rA3 ≤ (rA2.length : Int) then
 some (List.drop (Int.toNat 0) (List.take (Int.toNat rA3) rA2), true)
 else none
noncomputable def tAcceptorHear (a : AcceptorAcceptor) (a1 : ApiAccept) : Option (AcceptorAcceptor × (List ApiAccept) × Bool) :=
 bd (
   bd (tSizeN a.S) fun rA =>
   if rA ≤ a1.By then
   some true
   else
   some (!decide (a1.View = a.View)) : Option Bool) fun w =>
 if w then
 some (a, ([] : List ApiAccept), false)
 else
 bd (tTallyAdd a.Votes a1) fun rA1 =>
 bd (tProofMake a.S rA1.1) fun rA2 =>
 bd (tProofOf a.Proof) fun rA3 =>
 bd (
   bd (tTallyMay a1) fun rA4 =>
   if !rA4 then
   some true
   else
   if !rA2.2 then
   some true
   else
   some (decide (a.View ≤ rA3.1)) : Option Bool) fun w1 =>
 if w1 then
 some ((⟨a.S, a.Me, a.View, a.Has, a.At, a.Value, a.Proof, rA1.1⟩ : AcceptorAcceptor), ([] : List ApiAccept), false)
 else
 some ((⟨a.S, a.Me, a.View, a.Has, a.At, a.Value, rA2.1, rA1.1⟩ : AcceptorAcceptor), rA2.1, true)
noncomputable def tR19Make (sA : R07Size) (t : R18Tally) : Option ((List ApiAccept) × Bool) :=
 bd (tR07Proof sA) fun rA =>
 bd (tR18Best t rA) fun rA1 =>
 if !rA1.2.2 then
 some (([] : List ApiAccept), false)
 else
 bd (tR18Voters t rA1.1 rA1.2.1) fun rA2 =>
 if (0 : Int) ≤ 0 ∧ (0 : Int) ≤ rA ∧ rA ≤ (rA2.length : Int) then
 some (List.drop (Int.toNat 0) (List.take (Int.toNat rA) rA2), true)
 else none
noncomputable def tR21Hear (a : R21Acceptor) (a1 : ApiAccept) : Option (R21Acceptor × (List ApiAccept) × Bool) :=
 bd (
   bd (tR18May a1) fun rA =>
   if !rA then
   some true
   else
   bd (tR07N a.S) fun rA1 =>
   if rA1 ≤ a1.By then
   some true
   else
   some (!decide (a1.View = a.View)) : Option Bool) fun w =>
 if w then
 some (a, ([] : List ApiAccept), false)
 else
 bd (tR18Add a.Votes a1) fun rA2 =>
 bd (tR19Make a.S rA2.1) fun rA3 =>
 bd (tR19Of a.Proof) fun rA4 =>
 bd (
   if !rA3.2 then
   some true
   else
   ix rA3.1 0 fun y =>
   some (decide (y.View ≤ rA4.1)) : Option Bool) fun w1 =>
 if w1 then
 some ((⟨a.S, a.Me, a.View, a.Has, a.At, a.Value, a.Proof, rA2.1⟩ : R21Acceptor), ([] : List ApiAccept), false)
 else
 some ((⟨a.S, a.Me, a.View, a.Has, a.At, a.Value, rA3.1, rA2.1⟩ : R21Acceptor), rA3.1, true)
noncomputable def tL21AcceptorTurns (a : AcceptorAcceptor) (a1 : L21Call) : Option Bool :=
 bd (
   bd (tL21Few a) fun rA =>
   if !rA then
   some true
   else
   bd (tL21Short a1.Cert) fun rA1 =>
   if !rA1 then
   some true
   else
   if (6100 : Int) < (a1.Value.length : Int) then
   some true
   else
   if (6100 : Int) < (a1.Vote.Value.length : Int) then
   some true
   else
   bd (tL21Plain a) fun rA2 =>
   bd (tR21Right rA2) fun rA3 =>
   some (!rA3) : Option Bool) fun w =>
 if w then
 bd (tL21Alive) fun rA4 =>
 some rA4
 else
 bd (tL21Plain a) fun rA5 =>
 bd (tAcceptorEnter a a1.View) fun rA6 =>
 bd (tR21Enter rA5 a1.View) fun rA7 =>
 bd (
   bd (tL21Plain rA6.1) fun rA8 =>
   bd (tR21Same rA8 rA7.1) fun rA9 =>
   if !rA9 then
   some true
   else
   bd (tR20One rA6.2.1 rA7.2.1) fun rA10 =>
   if !rA10 then
   some true
   else
   some (!(decide (rA6.2.2 = rA7.2.2))) : Option Bool) fun w1 =>
 if w1 then
 some false
 else
 bd (tAcceptorPropose a a1.View a1.Value a1.Cert) fun rA11 =>
 bd (tR21Propose rA5 a1.View a1.Value a1.Cert) fun rA12 =>
 bd (
   bd (tL21Plain rA11.1) fun rA13 =>
   bd (tR21Same rA13 rA12.1) fun rA14 =>
   if !rA14 then
   some true
   else
   if !((decide (rA11.2.1.By = rA12.2.1.By)) && ((decide (rA11.2.1.View = rA12.2.1.View)) && (decide (rA11.2.1.Value = rA12.2.1.Value)))) then
   some true
   else
   some (!(decide (rA11.2.2 = rA12.2.2))) : Option Bool) fun w2 =>
 if w2 then
 some false
 else
 bd (tAcceptorHear a a1.Vote) fun rA15 =>
 bd (tR21Hear rA5 a1.Vote) fun rA16 =>
 bd (
   bd (tL21Alive) fun rA17 =>
   if rA17 then
   bd (tL21Plain rA15.1) fun rA18 =>
   bd (tR21Same rA18 rA16.1) fun rA19 =>
   if rA19 then
   bd (tR18Same rA15.2.1 rA16.2.1) fun rA20 =>
   if rA20 then
   if rA15.2.2 = rA16.2.2 then
   bd (tL21Plain a) fun rA21 =>
   bd (tR21Same rA21 rA5) fun rA22 =>
   some rA22
   else
   some false
   else
   some false
   else
   some false
   else
   some false : Option Bool) fun w3 =>
 some w3
end Dn.S
