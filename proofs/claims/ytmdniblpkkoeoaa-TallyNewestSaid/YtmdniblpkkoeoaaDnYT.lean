import Derived.Test.YtmdniblpkkoeoaaDnC
/-
  The functions, on typed values. Conditions: none.
-/
open Go Dn
set_option linter.unusedVariables false
set_option linter.unusedSimpArgs false
set_option maxRecDepth 100000
namespace Dn.S
structure ApiAccept where
  By : Int
  View : Int
  Value : List UInt8
deriving DecidableEq
@[reducible] def lvApiAccept (x : ApiAccept) : List MV := [.i .i64 x.By, .i .i64 x.View, .s x.Value]
@[reducible] def encApiAccept (x : ApiAccept) : MV := .agg (lvApiAccept x)
structure R18Tally where
  L : List ApiAccept
deriving DecidableEq
@[reducible] def lvR18Tally (x : R18Tally) : List MV := [.list (x.L.map encApiAccept)]
@[reducible] def encR18Tally (x : R18Tally) : MV := .agg (lvR18Tally x)
structure TallyTally where
  L : List ApiAccept
deriving DecidableEq
@[reducible] def lvTallyTally (x : TallyTally) : List MV := [.list (x.L.map encApiAccept)]
@[reducible] def encTallyTally (x : TallyTally) : MV := .agg (lvTallyTally x)
noncomputable def tL18FewL1 (lA : List ApiAccept) (st : Int) : Option (Int ⊕ (Unit ⊕ Bool)) :=
 if st < (lA.length : Int) then
 bd (
   if st = 60 then
   some true
   else
   ix lA st fun y =>
   some (decide ((6100 : Int) < (y.Value.length : Int))) : Option Bool) fun w1 =>
 if w1 then
 some (.inr (.inr false))
 else
 some (.inl (IntKind.wrap .i64 (st + 1)))
 else
 some (.inr (.inl ()))
noncomputable def tL18Few (lA : List ApiAccept) : Option Bool :=
 bd (Loop (tL18FewL1 lA) 0) fun w =>
 match w with
 | .inl p1 =>
   some true
 | .inr p2 =>
   some p2
noncomputable def tR18May (a : ApiAccept) : Option Bool :=
 bd (
   if (0 : Int) ≤ a.By then
   if (0 : Int) ≤ a.View then
   if a.View ≤ 100000 then
   some (decide ((a.Value.length : Int) ≤ 6000))
   else
   some false
   else
   some false
   else
   some false : Option Bool) fun w =>
 some w
noncomputable def tR18RightL1 (t : R18Tally) (st : Int) : Option (Int ⊕ (Unit ⊕ Bool)) :=
 if st < (t.L.length : Int) then
 bd (
   ix t.L st fun y =>
   bd (tR18May y) fun rA =>
   if !rA then
   some true
   else
   if (0 : Int) < st then
   ix t.L (IntKind.wrap .i64 (st - 1)) fun y1 =>
   ix t.L st fun y2 =>
   some (decide (y2.By ≤ y1.By))
   else
   some false : Option Bool) fun w1 =>
 if w1 then
 some (.inr (.inr false))
 else
 some (.inl (IntKind.wrap .i64 (st + 1)))
 else
 some (.inr (.inl ()))
noncomputable def tR18Right (t : R18Tally) : Option Bool :=
 bd (Loop (tR18RightL1 t) 0) fun w =>
 match w with
 | .inl p1 =>
   some true
 | .inr p2 =>
   some p2
noncomputable def tL18Plain (t : TallyTally) : Option R18Tally :=
 some (⟨t.L⟩ : R18Tally)
noncomputable def tTallyMay (a : ApiAccept) : Option Bool :=
 bd (
   if (0 : Int) ≤ a.By then
   if (0 : Int) ≤ a.View then
   if a.View ≤ 100000 then
   some (decide ((a.Value.length : Int) ≤ 6000))
   else
   some false
   else
   some false
   else
   some false : Option Bool) fun w =>
 some w
noncomputable def tCmpIsNaNInt (x : Int) : Option Bool :=
 some (!decide (x = x))
noncomputable def tCmpCompareInt (x : Int) (y : Int) : Option Int :=
 bd (tCmpIsNaNInt x) fun rA =>
 bd (tCmpIsNaNInt y) fun rA1 =>
 if rA then
 if rA1 then
 some 0
 else
 some (-1)
 else
 if rA1 then
 some 1
 else
 if x < y then
 some (-1)
 else
 if y < x then
 some 1
 else
 some 0
noncomputable def tTallyAddF1 (x : ApiAccept) (byA : Int) : Option Int :=
 bd (tCmpCompareInt x.By byA) fun rA =>
 some rA
noncomputable def tSlicesBinarySearchFuncApiAcceptIntL1 (x : List ApiAccept) (target : Int) (cmp : ApiAccept → Int → Option Int) (st : Int × Int) : Option ((Int × Int) ⊕ Int) :=
 if st.1 < st.2 then
 if (0 : Int) ≤ 1 then
 ix x (IntKind.wrap .i64 (Int.fdiv (IntKind.wrap .u64 (IntKind.wrap .i64 (st.1 + st.2))) (2 ^ min (Int.toNat 1) (IntKind.bits .u64)))) fun y =>
 bd (cmp y target) fun rA =>
 bd (
   if rA < 0 then
   some (IntKind.wrap .i64 ((IntKind.wrap .i64 (Int.fdiv (IntKind.wrap .u64 (IntKind.wrap .i64 (st.1 + st.2))) (2 ^ min (Int.toNat 1) (IntKind.bits .u64)))) + 1), st.2)
   else
   some (st.1, IntKind.wrap .i64 (Int.fdiv (IntKind.wrap .u64 (IntKind.wrap .i64 (st.1 + st.2))) (2 ^ min (Int.toNat 1) (IntKind.bits .u64)))) : Option (Int × Int)) fun w1 =>
 some (.inl (w1.1, w1.2))
 else none
 else
 some (.inr st.1)
noncomputable def tSlicesBinarySearchFuncApiAcceptInt (x : List ApiAccept) (target : Int) (cmp : ApiAccept → Int → Option Int) : Option (Int × Bool) :=
 bd (Loop (tSlicesBinarySearchFuncApiAcceptIntL1 x target cmp) (0, (x.length : Int))) fun w =>
 bd (
   if w < (x.length : Int) then
   ix x w fun y1 =>
   bd (cmp y1 target) fun rA1 =>
   some (w, decide (rA1 = 0))
   else
   some (w, false) : Option (Int × Bool)) fun w2 =>
 some (w2.1, w2.2)
noncomputable def tTallyAdd (t : TallyTally) (a : ApiAccept) : Option (TallyTally × Bool) :=
 bd (tTallyMay a) fun rA =>
 if !rA then
 some (t, false)
 else
 bd (tSlicesBinarySearchFuncApiAcceptInt t.L a.By tTallyAddF1) fun rA1 =>
 bd (
   if rA1.2 then
   ix t.L rA1.1 fun y =>
   some (decide (a.View ≤ y.View))
   else
   some false : Option Bool) fun w =>
 if w then
 some (t, false)
 else
 bd (tClone 32 t.L) fun rA2 =>
 bd (
   if rA1.2 then
   ix rA2 rA1.1 fun y1 =>
   some (rA2.set (Int.toNat rA1.1) a)
   else
   bd (tInsert 32 rA2 rA1.1 ([a] : List ApiAccept)) fun rA3 =>
   some rA3 : Option (List ApiAccept)) fun w1 =>
 some ((⟨w1⟩ : TallyTally), true)
noncomputable def tTallyBestL1 (a : TallyTally) (st : (List MV) × Int) : Option (((List MV) × Int) ⊕ (List MV)) :=
 if st.2 < (a.L.length : Int) then
 ix a.L st.2 fun y =>
 if (0 : Int) ≤ (midx st.1 ([.i .i64 y.View, .s y.Value] : List MV) : Int) ∧ Int.toNat (midx st.1 ([.i .i64 y.View, .s y.Value] : List MV) : Int) < (ment st.1 ([.i .i64 y.View, .s y.Value] : List MV) (.i .i64 0)).length then
 some (.inl (mset (ment st.1 ([.i .i64 y.View, .s y.Value] : List MV) (.i .i64 0)) (Int.toNat (midx st.1 ([.i .i64 y.View, .s y.Value] : List MV) : Int)) (.i .i64 (IntKind.wrap .i64 ((mgetI st.1 ([.i .i64 y.View, .s y.Value] : List MV)) + 1))), IntKind.wrap .i64 (st.2 + 1)))
 else none
 else
 some (.inr st.1)
noncomputable def tTallyBestL2 (a : TallyTally) (a1 : Int) (w : (List MV)) (st1 : Int × (List UInt8) × Bool × Int) : Option ((Int × (List UInt8) × Bool × Int) ⊕ (Int × (List UInt8) × Bool)) :=
 if st1.2.2.2 < (a.L.length : Int) then
 ix a.L st1.2.2.2 fun y1 =>
 bd (
   if (1 : Int) ≤ a1 then
   if a1 ≤ (mgetI w ([.i .i64 y1.View, .s y1.Value] : List MV)) then
   some (decide (st1.1 < y1.View))
   else
   some false
   else
   some false : Option Bool) fun w2 =>
 bd (
   if w2 then
   some (y1.View, y1.Value, true)
   else
   some (st1.1, st1.2.1, st1.2.2.1) : Option (Int × (List UInt8) × Bool)) fun w3 =>
 some (.inl (w3.1, w3.2.1, w3.2.2, IntKind.wrap .i64 (st1.2.2.2 + 1)))
 else
 some (.inr (st1.1, st1.2.1, st1.2.2.1))
noncomputable def tTallyBest (a : TallyTally) (a1 : Int) : Option (Int × (List UInt8) × Bool) :=
 bd (Loop (tTallyBestL1 a) (([] : List MV), 0)) fun w =>
 bd (Loop (tTallyBestL2 a a1 w) ((-1), ([] : List UInt8), false, 0)) fun w1 =>
 if !w1.2.2 then
 some (0, ([] : List UInt8), false)
 else
 some (w1.1, w1.2.1, true)
noncomputable def tTallyVotersL1 (t : TallyTally) (view : Int) (value : List UInt8) (st : (List ApiAccept) × Int) : Option (((List ApiAccept) × Int) ⊕ (List ApiAccept)) :=
 if st.2 < (t.L.length : Int) then
 ix t.L st.2 fun y =>
 bd (
   if y.View = view then
   some (decide (y.Value = value))
   else
   some false : Option Bool) fun w1 =>
 bd (
   if w1 then
   if (st.1.length + ([y] : List ApiAccept).length) * 32 ≤ 2 ^ 46 then
   some (st.1 ++ ([y] : List ApiAccept))
   else none
   else
   some st.1 : Option (List ApiAccept)) fun w2 =>
 some (.inl (w2, IntKind.wrap .i64 (st.2 + 1)))
 else
 some (.inr st.1)
noncomputable def tTallyVoters (t : TallyTally) (view : Int) (value : List UInt8) : Option (List ApiAccept) :=
 bd (Loop (tTallyVotersL1 t view value) (([] : List ApiAccept), 0)) fun w =>
 some w
noncomputable def tTallyCount (t : TallyTally) (view : Int) (value : List UInt8) : Option Int :=
 bd (tTallyVoters t view value) fun rA =>
 some (rA.length : Int)
noncomputable def tL18Alive : Option Bool :=
 bd (tTallyAdd (⟨([] : List ApiAccept)⟩ : TallyTally) (⟨2, 1, ([97] : List UInt8)⟩ : ApiAccept)) fun rA =>
 bd (tTallyAdd rA.1 (⟨2, 1, ([98] : List UInt8)⟩ : ApiAccept)) fun rA1 =>
 bd (tTallyBest rA1.1 1) fun rA2 =>
 bd (
   if rA.2 then
   if !rA1.2 then
   if rA2.2.2 then
   if rA2.1 = 1 then
   if rA2.2.1 = ([97] : List UInt8) then
   bd (tTallyCount rA.1 1 ([97] : List UInt8)) fun rA3 =>
   some (decide (rA3 = 1))
   else
   some false
   else
   some false
   else
   some false
   else
   some false
   else
   some false : Option Bool) fun w =>
 some w
noncomputable def tR18AddL1 (a : R18Tally) (a1 : ApiAccept) (st : (List ApiAccept) × (List ApiAccept) × Bool × Int) : Option (((List ApiAccept) × (List ApiAccept) × Bool × Int) ⊕ (((List ApiAccept) × (List ApiAccept) × Bool) ⊕ ((List ApiAccept) × Bool))) :=
 if st.2.2.2 < (a.L.length : Int) then
 ix a.L st.2.2.2 fun y =>
 bd (
   if y.By = a1.By then
   some (decide (a1.View ≤ y.View))
   else
   some false : Option Bool) fun w1 =>
 if w1 then
 some (.inr (.inr (a.L, false)))
 else
 bd (
   if !st.2.2.1 then
   some (decide (a1.By ≤ y.By))
   else
   some false : Option Bool) fun w2 =>
 bd (
   if w2 then
   if (st.2.1.length + ([a1] : List ApiAccept).length) * 32 ≤ 2 ^ 46 then
   some (st.2.1 ++ ([a1] : List ApiAccept), true)
   else none
   else
   some (st.2.1, st.2.2.1) : Option ((List ApiAccept) × Bool)) fun w3 =>
 bd (
   if !decide (y.By = a1.By) then
   if (w3.1.length + ([y] : List ApiAccept).length) * 32 ≤ 2 ^ 46 then
   some (w3.1 ++ ([y] : List ApiAccept))
   else none
   else
   some w3.1 : Option (List ApiAccept)) fun w4 =>
 some (.inl (st.1, w4, w3.2, IntKind.wrap .i64 (st.2.2.2 + 1)))
 else
 some (.inr (.inl (st.1, st.2.1, st.2.2.1)))
noncomputable def tR18Add (a : R18Tally) (a1 : ApiAccept) : Option (R18Tally × Bool) :=
 bd (tR18May a1) fun rA =>
 if !rA then
 some (a, false)
 else
 bd (Loop (tR18AddL1 a a1) (([] : List ApiAccept), ([] : List ApiAccept), false, 0)) fun w =>
 match w with
 | .inl p3 =>
   bd (
     if !p3.2.2 then
     if (p3.2.1.length + ([a1] : List ApiAccept).length) * 32 ≤ 2 ^ 46 then
     some (p3.2.1 ++ ([a1] : List ApiAccept))
     else none
     else
     some p3.2.1 : Option (List ApiAccept)) fun w5 =>
   some ((⟨w5⟩ : R18Tally), true)
 | .inr p4 =>
   some ((⟨p4.1⟩ : R18Tally), p4.2)
noncomputable def tR18VotersL1 (t : R18Tally) (view : Int) (value : List UInt8) (st : (List ApiAccept) × Int) : Option (((List ApiAccept) × Int) ⊕ (List ApiAccept)) :=
 if st.2 < (t.L.length : Int) then
 bd (
   ix t.L st.2 fun y =>
   if y.View = view then
   ix t.L st.2 fun y1 =>
   some (decide (y1.Value = value))
   else
   some false : Option Bool) fun w1 =>
 bd (
   if w1 then
   ix t.L st.2 fun y2 =>
   if (st.1.length + ([y2] : List ApiAccept).length) * 32 ≤ 2 ^ 46 then
   some (st.1 ++ ([y2] : List ApiAccept))
   else none
   else
   some st.1 : Option (List ApiAccept)) fun w2 =>
 some (.inl (w2, IntKind.wrap .i64 (st.2 + 1)))
 else
 some (.inr st.1)
noncomputable def tR18Voters (t : R18Tally) (view : Int) (value : List UInt8) : Option (List ApiAccept) :=
 bd (Loop (tR18VotersL1 t view value) (([] : List ApiAccept), 0)) fun w =>
 some w
noncomputable def tR18Count (t : R18Tally) (view : Int) (value : List UInt8) : Option Int :=
 bd (tR18Voters t view value) fun rA =>
 some (rA.length : Int)
noncomputable def tR18BestL1 (t : R18Tally) (need : Int) (st : Int × Int) : Option ((Int × Int) ⊕ Int) :=
 bd (
   if st.2 < (t.L.length : Int) then
   some (decide ((1 : Int) ≤ need))
   else
   some false : Option Bool) fun w1 =>
 if w1 then
 ix t.L st.2 fun y =>
 bd (
   bd (tR18Count t y.View y.Value) fun rA =>
   if need ≤ rA then
   if st.1 < 0 then
   some true
   else
   ix t.L st.1 fun y1 =>
   some (decide (y1.View < y.View))
   else
   some false : Option Bool) fun w2 =>
 bd (
   if w2 then
   some st.2
   else
   some st.1 : Option Int) fun w3 =>
 some (.inl (w3, IntKind.wrap .i64 (st.2 + 1)))
 else
 some (.inr st.1)
noncomputable def tR18Best (t : R18Tally) (need : Int) : Option (Int × (List UInt8) × Bool) :=
 bd (Loop (tR18BestL1 t need) ((-1), 0)) fun w =>
 if w < 0 then
 some (0, ([] : List UInt8), false)
 else
 ix t.L w fun y2 =>
 ix t.L w fun y3 =>
 some (y2.View, y3.Value, true)
noncomputable def tR18SameL1 (a : List ApiAccept) (b : List ApiAccept) (st : Int) : Option (Int ⊕ (Unit ⊕ Bool)) :=
 if st < (a.length : Int) then
 ix a st fun y =>
 ix b st fun y1 =>
 if !((decide (y.By = y1.By)) && ((decide (y.View = y1.View)) && (decide (y.Value = y1.Value)))) then
 some (.inr (.inr false))
 else
 some (.inl (IntKind.wrap .i64 (st + 1)))
 else
 some (.inr (.inl ()))
noncomputable def tR18Same (a : List ApiAccept) (b : List ApiAccept) : Option Bool :=
 if !decide ((a.length : Int) = (b.length : Int)) then
 some false
 else
 bd (Loop (tR18SameL1 a b) 0) fun w =>
 match w with
 | .inl p1 =>
   some true
 | .inr p2 =>
   some p2
noncomputable def tL18TallyTells (a : TallyTally) (a1 : ApiAccept) (a2 : Int) : Option Bool :=
 bd (
   bd (tL18Few a.L) fun rA =>
   if !rA then
   some true
   else
   if (6100 : Int) < (a1.Value.length : Int) then
   some true
   else
   bd (tL18Plain a) fun rA1 =>
   bd (tR18Right rA1) fun rA2 =>
   some (!rA2) : Option Bool) fun w =>
 if w then
 bd (tL18Alive) fun rA3 =>
 some rA3
 else
 if (([] : List ApiAccept).length + a.L.length) * 32 ≤ 2 ^ 46 then
 bd (tTallyAdd a a1) fun rA4 =>
 bd (tL18Plain a) fun rA5 =>
 bd (tR18Add rA5 a1) fun rA6 =>
 bd (tTallyBest a a2) fun rA7 =>
 bd (tL18Plain a) fun rA8 =>
 bd (tR18Best rA8 a2) fun rA9 =>
 bd (
   bd (tR18Same rA4.1.L rA6.1.L) fun rA10 =>
   if rA10 then
   if rA4.2 = rA6.2 then
   if rA7.1 = rA9.1 then
   if rA7.2.1 = rA9.2.1 then
   some (decide (rA7.2.2 = rA9.2.2))
   else
   some false
   else
   some false
   else
   some false
   else
   some false : Option Bool) fun w1 =>
 bd (
   bd (tL18Alive) fun rA11 =>
   if rA11 then
   if w1 then
   bd (tTallyCount a a1.View a1.Value) fun rA12 =>
   bd (tL18Plain a) fun rA13 =>
   bd (tR18Count rA13 a1.View a1.Value) fun rA14 =>
   if rA12 = rA14 then
   bd (tTallyVoters a a1.View a1.Value) fun rA15 =>
   bd (tL18Plain a) fun rA16 =>
   bd (tR18Voters rA16 a1.View a1.Value) fun rA17 =>
   bd (tR18Same rA15 rA17) fun rA18 =>
   if rA18 then
   bd (tR18Same a.L (([] : List ApiAccept) ++ a.L)) fun rA19 =>
   some rA19
   else
   some false
   else
   some false
   else
   some false
   else
   some false : Option Bool) fun w2 =>
 some w2
 else none
noncomputable def tL18TallyNewestL1 (a : List ApiAccept) (st : (List ApiAccept) × Int) : Option (((List ApiAccept) × Int) ⊕ (List ApiAccept)) :=
 if st.2 < (a.length : Int) then
 ix a st.2 fun y =>
 bd (tTallyAdd (⟨st.1⟩ : TallyTally) y) fun rA2 =>
 some (.inl (rA2.1.L, IntKind.wrap .i64 (st.2 + 1)))
 else
 some (.inr st.1)
noncomputable def tL18TallyNewestL2 (a : List ApiAccept) (st1 : Int × Int) (st2 : Bool × Int) : Option ((Bool × Int) ⊕ Bool) :=
 if st2.2 < (a.length : Int) then
 bd (
   ix a st2.2 fun y2 =>
   ix a st1.2 fun y3 =>
   if y2.By = y3.By then
   ix a st2.2 fun y4 =>
   bd (tR18May y4) fun rA6 =>
   some rA6
   else
   some false : Option Bool) fun w3 =>
 bd (
   if st2.1 then
   if !w3 then
   some true
   else
   ix a st2.2 fun y5 =>
   ix a st1.2 fun y6 =>
   if y5.View < y6.View then
   some true
   else
   ix a st2.2 fun y7 =>
   ix a st1.2 fun y8 =>
   if y7.View = y8.View then
   some (decide (st1.2 ≤ st2.2))
   else
   some false
   else
   some false : Option Bool) fun w4 =>
 some (.inl (w4, IntKind.wrap .i64 (st2.2 + 1)))
 else
 some (.inr st2.1)
noncomputable def tL18TallyNewestL3 (a : List ApiAccept) (w : (List ApiAccept)) (st1 : Int × Int) (st3 : Bool × Int) : Option ((Bool × Int) ⊕ Bool) :=
 if st3.2 < (w.length : Int) then
 bd (
   if st3.1 then
   some true
   else
   ix w st3.2 fun y9 =>
   ix a st1.2 fun y10 =>
   some ((decide (y9.By = y10.By)) && ((decide (y9.View = y10.View)) && (decide (y9.Value = y10.Value)))) : Option Bool) fun w6 =>
 some (.inl (w6, IntKind.wrap .i64 (st3.2 + 1)))
 else
 some (.inr st3.1)
noncomputable def tL18TallyNewestL4 (a : List ApiAccept) (w : (List ApiAccept)) (st1 : Int × Int) : Option ((Int × Int) ⊕ (Int ⊕ Bool)) :=
 if st1.2 < (a.length : Int) then
 ix a st1.2 fun y1 =>
 bd (tR18May y1) fun rA5 =>
 bd (Loop (tL18TallyNewestL2 a st1) (rA5, 0)) fun w2 =>
 bd (Loop (tL18TallyNewestL3 a w st1) (false, 0)) fun w5 =>
 bd (
   if w2 then
   some (IntKind.wrap .i64 (st1.1 + 1))
   else
   some st1.1 : Option Int) fun w7 =>
 bd (
   if w2 then
   some (!w5)
   else
   some false : Option Bool) fun w8 =>
 if w8 then
 some (.inr (.inr false))
 else
 some (.inl (w7, IntKind.wrap .i64 (st1.2 + 1)))
 else
 some (.inr (.inl st1.1))
noncomputable def tL18TallyNewest (a : List ApiAccept) : Option Bool :=
 bd (tL18Few a) fun rA =>
 if !rA then
 bd (tL18Alive) fun rA1 =>
 some rA1
 else
 bd (Loop (tL18TallyNewestL1 a) (([] : List ApiAccept), 0)) fun w =>
 bd (tL18Plain (⟨w⟩ : TallyTally)) fun rA3 =>
 bd (tR18Right rA3) fun rA4 =>
 if !rA4 then
 some false
 else
 bd (Loop (tL18TallyNewestL4 a w) (0, 0)) fun w1 =>
 match w1 with
 | .inl p5 =>
   bd (
     bd (tL18Alive) fun rA7 =>
     if rA7 then
     some (decide (p5 = (w.length : Int)))
     else
     some false : Option Bool) fun w9 =>
   some w9
 | .inr p6 =>
   some p6
noncomputable def tL18TallyBestL1 (a : TallyTally) (a1 : Int) (rA4 : Int × (List UInt8) × Bool) (st : Int) : Option (Int ⊕ (Unit ⊕ Bool)) :=
 if st < (a.L.length : Int) then
 ix a.L st fun y =>
 bd (
   if (1 : Int) ≤ a1 then
   bd (tTallyCount a y.View y.Value) fun rA5 =>
   if a1 ≤ rA5 then
   if !rA4.2.2 then
   some true
   else
   some (decide (rA4.1 < y.View))
   else
   some false
   else
   some false : Option Bool) fun w2 =>
 if w2 then
 some (.inr (.inr false))
 else
 some (.inl (IntKind.wrap .i64 (st + 1)))
 else
 some (.inr (.inl ()))
noncomputable def tL18TallyBest (a : TallyTally) (a1 : Int) : Option Bool :=
 bd (
   bd (tL18Few a.L) fun rA =>
   if !rA then
   some true
   else
   bd (tL18Plain a) fun rA1 =>
   bd (tR18Right rA1) fun rA2 =>
   some (!rA2) : Option Bool) fun w =>
 if w then
 bd (tL18Alive) fun rA3 =>
 some rA3
 else
 bd (tTallyBest a a1) fun rA4 =>
 bd (Loop (tL18TallyBestL1 a a1 rA4) 0) fun w1 =>
 match w1 with
 | .inl p1 =>
   if !rA4.2.2 then
   bd (
     bd (tL18Alive) fun rA6 =>
     if rA6 then
     if rA4.1 = 0 then
     some (decide (rA4.2.1 = ([] : List UInt8)))
     else
     some false
     else
     some false : Option Bool) fun w3 =>
   some w3
   else
   bd (tTallyBest a (imax (IntKind.wrap .i64 (a1 - 1)) 1)) fun rA7 =>
   bd (
     bd (tL18Alive) fun rA8 =>
     if rA8 then
     if (1 : Int) ≤ a1 then
     bd (tTallyCount a rA4.1 rA4.2.1) fun rA9 =>
     if a1 ≤ rA9 then
     if rA7.2.2 then
     if rA4.1 ≤ rA7.1 then
     bd (tTallyVoters a rA4.1 rA4.2.1) fun rA10 =>
     bd (tTallyCount a rA4.1 rA4.2.1) fun rA11 =>
     some (decide ((rA10.length : Int) = rA11))
     else
     some false
     else
     some false
     else
     some false
     else
     some false
     else
     some false : Option Bool) fun w4 =>
   some w4
 | .inr p2 =>
   some p2
noncomputable def tTallyRightL1 (t : TallyTally) (st : Int) : Option (Int ⊕ (Unit ⊕ Bool)) :=
 if st < (t.L.length : Int) then
 ix t.L st fun y =>
 bd (
   bd (tTallyMay y) fun rA =>
   if !rA then
   some true
   else
   if (0 : Int) < st then
   ix t.L (IntKind.wrap .i64 (st - 1)) fun y1 =>
   some (decide (y.By ≤ y1.By))
   else
   some false : Option Bool) fun w1 =>
 if w1 then
 some (.inr (.inr false))
 else
 some (.inl (IntKind.wrap .i64 (st + 1)))
 else
 some (.inr (.inl ()))
noncomputable def tTallyRight (t : TallyTally) : Option Bool :=
 bd (Loop (tTallyRightL1 t) 0) fun w =>
 match w with
 | .inl p1 =>
   some true
 | .inr p2 =>
   some p2
noncomputable def tSlicesEqualApiAcceptL1 (s1 : List ApiAccept) (s2 : List ApiAccept) (st : Int) : Option (Int ⊕ (Unit ⊕ Bool)) :=
 if st < (s1.length : Int) then
 ix s1 st fun y =>
 ix s2 st fun y1 =>
 if !((decide (y.By = y1.By)) && ((decide (y.View = y1.View)) && (decide (y.Value = y1.Value)))) then
 some (.inr (.inr false))
 else
 some (.inl (IntKind.wrap .i64 (st + 1)))
 else
 some (.inr (.inl ()))
noncomputable def tSlicesEqualApiAccept (s1 : List ApiAccept) (s2 : List ApiAccept) : Option Bool :=
 if !decide ((s1.length : Int) = (s2.length : Int)) then
 some false
 else
 bd (Loop (tSlicesEqualApiAcceptL1 s1 s2) 0) fun w =>
 match w with
 | .inl p1 =>
   some true
 | .inr p2 =>
   some p2
noncomputable def tTallySame (a : List ApiAccept) (b : List ApiAccept) : Option Bool :=
 bd (tSlicesEqualApiAccept a b) fun rA =>
 some rA
noncomputable def tL18TallyMay (a : ApiAccept) (t : TallyTally) (u : List ApiAccept) : Option Bool :=
 bd (
   bd (tL18Few t.L) fun rA =>
   if !rA then
   some true
   else
   bd (tL18Few u) fun rA1 =>
   if !rA1 then
   some true
   else
   some (decide ((6100 : Int) < (a.Value.length : Int))) : Option Bool) fun w =>
 if w then
 bd (tL18Alive) fun rA2 =>
 some rA2
 else
 bd (
   bd (tL18Alive) fun rA3 =>
   if rA3 then
   bd (tTallyMay a) fun rA4 =>
   bd (tR18May a) fun rA5 =>
   if rA4 = rA5 then
   bd (tTallyRight t) fun rA6 =>
   bd (tL18Plain t) fun rA7 =>
   bd (tR18Right rA7) fun rA8 =>
   if rA6 = rA8 then
   bd (tTallySame t.L u) fun rA9 =>
   bd (tR18Same t.L u) fun rA10 =>
   some (decide (rA9 = rA10))
   else
   some false
   else
   some false
   else
   some false : Option Bool) fun w1 =>
 some w1
noncomputable def tL18TallyTwo (a : TallyTally) (a1 : ApiAccept) (a2 : ApiAccept) : Option Bool :=
 bd (
   bd (tL18Few a.L) fun rA =>
   if !rA then
   some true
   else
   if (6100 : Int) < (a1.Value.length : Int) then
   some true
   else
   if (6100 : Int) < (a2.Value.length : Int) then
   some true
   else
   bd (tL18Plain a) fun rA1 =>
   bd (tR18Right rA1) fun rA2 =>
   some (!rA2) : Option Bool) fun w =>
 if w then
 bd (tL18Alive) fun rA3 =>
 some rA3
 else
 bd (tTallyAdd a a1) fun rA4 =>
 bd (tTallyAdd rA4.1 a2) fun rA5 =>
 bd (tTallyAdd a a2) fun rA6 =>
 bd (tTallyAdd rA6.1 a1) fun rA7 =>
 bd (tTallyAdd rA4.1 a1) fun rA8 =>
 bd (
   if rA8.2 then
   some true
   else
   bd (tTallySame rA8.1.L rA4.1.L) fun rA9 =>
   if !rA9 then
   some true
   else
   bd (tTallyRight rA5.1) fun rA10 =>
   some (!rA10) : Option Bool) fun w1 =>
 if w1 then
 some false
 else
 bd (
   bd (tL18Alive) fun rA11 =>
   if rA11 then
   if a1.By = a2.By then
   some true
   else
   bd (tTallySame rA5.1.L rA7.1.L) fun rA12 =>
   if rA12 then
   if rA4.2 = rA7.2 then
   some (decide (rA5.2 = rA6.2))
   else
   some false
   else
   some false
   else
   some false : Option Bool) fun w2 =>
 some w2
end Dn.S
