import Derived.Test.YteakdlhhamgfbaaDoorDnD
/-
  The functions, on typed values. Conditions: none.
-/
open Go Dn
set_option linter.unusedVariables false
set_option linter.unusedSimpArgs false
set_option maxRecDepth 100000
namespace Dn.S
structure WatchWatch where
  Path : List UInt8
  Client : Int
  Kids : Bool
deriving DecidableEq
@[reducible] def lvWatchWatch (x : WatchWatch) : List MV := [.s x.Path, .i .i64 x.Client, .b x.Kids]
@[reducible] def encWatchWatch (x : WatchWatch) : MV := .agg (lvWatchWatch x)
structure WatchTable where
  L : List WatchWatch
deriving DecidableEq
@[reducible] def lvWatchTable (x : WatchTable) : List MV := [.list (x.L.map encWatchWatch)]
@[reducible] def encWatchTable (x : WatchTable) : MV := .agg (lvWatchTable x)
structure R11Watch where
  Path : List UInt8
  Client : Int
  Kids : Bool
deriving DecidableEq
@[reducible] def lvR11Watch (x : R11Watch) : List MV := [.s x.Path, .i .i64 x.Client, .b x.Kids]
@[reducible] def encR11Watch (x : R11Watch) : MV := .agg (lvR11Watch x)
structure R11Table where
  L : List R11Watch
deriving DecidableEq
@[reducible] def lvR11Table (x : R11Table) : List MV := [.list (x.L.map encR11Watch)]
@[reducible] def encR11Table (x : R11Table) : MV := .agg (lvR11Table x)
structure WatchChange where
  Kind : Int
  Path : List UInt8
deriving DecidableEq
@[reducible] def lvWatchChange (x : WatchChange) : List MV := [.i .i64 x.Kind, .s x.Path]
@[reducible] def encWatchChange (x : WatchChange) : MV := .agg (lvWatchChange x)
structure WatchEvent where
  W : WatchWatch
  C : WatchChange
deriving DecidableEq
@[reducible] def lvWatchEvent (x : WatchEvent) : List MV := [.s x.W.Path, .i .i64 x.W.Client, .b x.W.Kids, .i .i64 x.C.Kind, .s x.C.Path]
@[reducible] def encWatchEvent (x : WatchEvent) : MV := .agg (lvWatchEvent x)
structure R11Change where
  Kind : Int
  Path : List UInt8
deriving DecidableEq
@[reducible] def lvR11Change (x : R11Change) : List MV := [.i .i64 x.Kind, .s x.Path]
@[reducible] def encR11Change (x : R11Change) : MV := .agg (lvR11Change x)
structure R11Event where
  W : R11Watch
  C : R11Change
deriving DecidableEq
@[reducible] def lvR11Event (x : R11Event) : List MV := [.s x.W.Path, .i .i64 x.W.Client, .b x.W.Kids, .i .i64 x.C.Kind, .s x.C.Path]
@[reducible] def encR11Event (x : R11Event) : MV := .agg (lvR11Event x)
noncomputable def tStringsliteHasPrefix (sA : List UInt8) (prefixA : List UInt8) : Option Bool :=
 bd (
   if (prefixA.length : Int) ≤ (sA.length : Int) then
   if (0 : Int) ≤ 0 ∧ (0 : Int) ≤ (prefixA.length : Int) ∧ (prefixA.length : Int) ≤ (sA.length : Int) then
   some (decide ((List.drop (Int.toNat 0) (List.take (Int.toNat (prefixA.length : Int)) sA)) = prefixA))
   else none
   else
   some false : Option Bool) fun w =>
 some w
noncomputable def tStringsliteCutPrefix (sA : List UInt8) (prefixA : List UInt8) : Option ((List UInt8) × Bool) :=
 bd (tStringsliteHasPrefix sA prefixA) fun rA =>
 if !rA then
 some (sA, false)
 else
 if (0 : Int) ≤ (prefixA.length : Int) ∧ (prefixA.length : Int) ≤ (sA.length : Int) ∧ (sA.length : Int) ≤ (sA.length : Int) then
 some (List.drop (Int.toNat (prefixA.length : Int)) (List.take (Int.toNat (sA.length : Int)) sA), true)
 else none
noncomputable def tStringsCutPrefix (sA : List UInt8) (prefixA : List UInt8) : Option ((List UInt8) × Bool) :=
 bd (tStringsliteCutPrefix sA prefixA) fun rA =>
 some (rA.1, rA.2)
noncomputable def tPathIsNameF1 (c : Int) : Option Bool :=
 bd (tHasRune ([97, 98, 99, 100, 101, 102, 103, 104, 105, 106, 107, 108, 109, 110, 111, 112, 113, 114, 115, 116, 117, 118, 119, 120, 121, 122, 48, 49, 50, 51, 52, 53, 54, 55, 56, 57, 45, 95] : List UInt8) c) fun rA =>
 some (!rA)
noncomputable def tStringsIndexInL1 (f : Int → Option Bool) (truth : Bool) (st : (List MV)) : Option ((List MV) ⊕ (Unit ⊕ Int)) :=
 if itOk st then
 bd (f (itRune st)) fun rA =>
 if rA = truth then
 some (.inr (.inr (itPos st)))
 else
 some (.inl (itStep st))
 else
 some (.inr (.inl ()))
noncomputable def tStringsIndexIn (sA : List UInt8) (f : Int → Option Bool) (truth : Bool) : Option Int :=
 bd (Loop (tStringsIndexInL1 f truth) ([.s sA, .i .i64 0] : List MV)) fun w =>
 match w with
 | .inl p1 =>
   some (-1)
 | .inr p2 =>
   some p2
noncomputable def tStringsIndexFunc (sA : List UInt8) (f : Int → Option Bool) : Option Int :=
 bd (tStringsIndexIn sA f true) fun rA =>
 some rA
noncomputable def tStringsContainsFunc (sA : List UInt8) (f : Int → Option Bool) : Option Bool :=
 bd (tStringsIndexFunc sA f) fun rA =>
 some (decide ((0 : Int) ≤ rA))
noncomputable def tPathIsName (sA : List UInt8) : Option Bool :=
 bd (
   if !decide (sA = ([] : List UInt8)) then
   if (sA.length : Int) ≤ 30 then
   bd (tTrim sA ([97, 98, 99, 100, 101, 102, 103, 104, 105, 106, 107, 108, 109, 110, 111, 112, 113, 114, 115, 116, 117, 118, 119, 120, 121, 122, 48, 49, 50, 51, 52, 53, 54, 55, 56, 57, 45, 95] : List UInt8)) fun rA =>
   if rA = ([] : List UInt8) then
   bd (tStringsContainsFunc sA tPathIsNameF1) fun rA1 =>
   some (!rA1)
   else
   some false
   else
   some false
   else
   some false : Option Bool) fun w =>
 some w
noncomputable def tPathInnerF1 (sA : List UInt8) : Option Bool :=
 bd (tPathIsName sA) fun rA =>
 some (!rA)
noncomputable def tSlicesIndexFuncStringL1 (sA : List (List UInt8)) (f : (List UInt8) → Option Bool) (st : Int) : Option (Int ⊕ (Unit ⊕ Int)) :=
 if st < (sA.length : Int) then
 ix sA st fun y =>
 bd (f y) fun rA =>
 if rA then
 some (.inr (.inr st))
 else
 some (.inl (IntKind.wrap .i64 (st + 1)))
 else
 some (.inr (.inl ()))
noncomputable def tSlicesIndexFuncString (sA : List (List UInt8)) (f : (List UInt8) → Option Bool) : Option Int :=
 bd (Loop (tSlicesIndexFuncStringL1 sA f) 0) fun w =>
 match w with
 | .inl p1 =>
   some (-1)
 | .inr p2 =>
   some p2
noncomputable def tSlicesContainsFuncString (sA : List (List UInt8)) (f : (List UInt8) → Option Bool) : Option Bool :=
 bd (tSlicesIndexFuncString sA f) fun rA =>
 some (decide ((0 : Int) ≤ rA))
noncomputable def tPathInner (p : List UInt8) : Option ((List (List UInt8)) × Bool) :=
 bd (tStringsCutPrefix p ([47] : List UInt8)) fun rA =>
 bd (
   if !rA.2 then
   some true
   else
   some (decide ((100 : Int) < (p.length : Int))) : Option Bool) fun w =>
 if w then
 some (([] : List (List UInt8)), false)
 else
 if rA.1 = ([] : List UInt8) then
 some (([] : List (List UInt8)), true)
 else
 bd (tSplit rA.1 ([47] : List UInt8)) fun rA1 =>
 bd (
   if (rA1.length : Int) ≤ 8 then
   bd (tSlicesContainsFuncString rA1 tPathInnerF1) fun rA2 =>
   some (rA1, !rA2, rA1)
   else
   some (rA1, false, rA1) : Option ((List (List UInt8)) × Bool × (List (List UInt8)))) fun w1 =>
 some (w1.2.2, w1.2.1)
noncomputable def tPathRight (p : List UInt8) : Option Bool :=
 bd (tPathInner p) fun rA =>
 some rA.2
noncomputable def tBytealgLastIndexByteStringL1 (sA : List UInt8) (c : Int) (st : Int) : Option (Int ⊕ (Unit ⊕ Int)) :=
 if (0 : Int) ≤ st then
 if (0 : Int) ≤ st ∧ st < (sA.length : Int) then
 if ((sA.getD (Int.toNat st) 0).toNat : Int) = c then
 some (.inr (.inr st))
 else
 some (.inl (IntKind.wrap .i64 (st - 1)))
 else none
 else
 some (.inr (.inl ()))
noncomputable def tBytealgLastIndexByteString (sA : List UInt8) (c : Int) : Option Int :=
 bd (Loop (tBytealgLastIndexByteStringL1 sA c) (IntKind.wrap .i64 ((sA.length : Int) - 1))) fun w =>
 match w with
 | .inl p1 =>
   some (-1)
 | .inr p2 =>
   some p2
noncomputable def tBytealgHashStrRevStringL1 (sep : List UInt8) (st : Int × Int) : Option ((Int × Int) ⊕ Int) :=
 if (0 : Int) ≤ st.2 then
 if (0 : Int) ≤ st.2 ∧ st.2 < (sep.length : Int) then
 some (.inl (IntKind.wrap .u32 ((IntKind.wrap .u32 (st.1 * 16777619)) + (IntKind.wrap .u32 ((sep.getD (Int.toNat st.2) 0).toNat : Int))), IntKind.wrap .i64 (st.2 - 1)))
 else none
 else
 some (.inr st.1)
noncomputable def tBytealgHashStrRevStringL2 (st1 : Int × Int × Int) : Option ((Int × Int × Int) ⊕ Int) :=
 if (0 : Int) < st1.2.2 then
 none
 else
 some (.inr st1.1)
noncomputable def tBytealgHashStrRevString (sep : List UInt8) : Option (Int × Int) :=
 bd (Loop (tBytealgHashStrRevStringL1 sep) (0, IntKind.wrap .i64 ((sep.length : Int) - 1))) fun w =>
 bd (Loop tBytealgHashStrRevStringL2 (1, 16777619, (sep.length : Int))) fun w1 =>
 some (w, w1)
noncomputable def tBytealgLastIndexRabinKarpStringL1 (a : List UInt8) (a1 : List UInt8) (st : Int × Int) : Option ((Int × Int) ⊕ Int) :=
 if (IntKind.wrap .i64 ((a.length : Int) - (a1.length : Int))) ≤ st.2 then
 if (0 : Int) ≤ st.2 ∧ st.2 < (a.length : Int) then
 some (.inl (IntKind.wrap .u32 ((IntKind.wrap .u32 (st.1 * 16777619)) + (IntKind.wrap .u32 ((a.getD (Int.toNat st.2) 0).toNat : Int))), IntKind.wrap .i64 (st.2 - 1)))
 else none
 else
 some (.inr st.1)
noncomputable def tBytealgLastIndexRabinKarpStringL2 (a : List UInt8) (a1 : List UInt8) (rA : Int × Int) (st1 : Int × Int) : Option ((Int × Int) ⊕ (Unit ⊕ Int)) :=
 if (0 : Int) ≤ st1.2 then
 if (0 : Int) ≤ st1.2 ∧ st1.2 < (a.length : Int) then
 if (0 : Int) ≤ (IntKind.wrap .i64 (st1.2 + (a1.length : Int))) ∧ (IntKind.wrap .i64 (st1.2 + (a1.length : Int))) < (a.length : Int) then
 bd (
   if (IntKind.wrap .u32 ((IntKind.wrap .u32 ((IntKind.wrap .u32 (st1.1 * 16777619)) + (IntKind.wrap .u32 ((a.getD (Int.toNat st1.2) 0).toNat : Int)))) - (IntKind.wrap .u32 (rA.2 * (IntKind.wrap .u32 ((a.getD (Int.toNat (IntKind.wrap .i64 (st1.2 + (a1.length : Int)))) 0).toNat : Int)))))) = rA.1 then
   if (0 : Int) ≤ st1.2 ∧ st1.2 ≤ (IntKind.wrap .i64 (st1.2 + (a1.length : Int))) ∧ (IntKind.wrap .i64 (st1.2 + (a1.length : Int))) ≤ (a.length : Int) then
   some (decide ((List.drop (Int.toNat st1.2) (List.take (Int.toNat (IntKind.wrap .i64 (st1.2 + (a1.length : Int)))) a)) = a1))
   else none
   else
   some false : Option Bool) fun w3 =>
 if w3 then
 some (.inr (.inr st1.2))
 else
 some (.inl (IntKind.wrap .u32 ((IntKind.wrap .u32 ((IntKind.wrap .u32 (st1.1 * 16777619)) + (IntKind.wrap .u32 ((a.getD (Int.toNat st1.2) 0).toNat : Int)))) - (IntKind.wrap .u32 (rA.2 * (IntKind.wrap .u32 ((a.getD (Int.toNat (IntKind.wrap .i64 (st1.2 + (a1.length : Int)))) 0).toNat : Int))))), IntKind.wrap .i64 (st1.2 - 1)))
 else none
 else none
 else
 some (.inr (.inl ()))
noncomputable def tBytealgLastIndexRabinKarpString (a : List UInt8) (a1 : List UInt8) : Option Int :=
 bd (tBytealgHashStrRevString a1) fun rA =>
 bd (Loop (tBytealgLastIndexRabinKarpStringL1 a a1) (0, IntKind.wrap .i64 ((a.length : Int) - 1))) fun w =>
 bd (
   if w = rA.1 then
   if (0 : Int) ≤ (IntKind.wrap .i64 ((a.length : Int) - (a1.length : Int))) ∧ (IntKind.wrap .i64 ((a.length : Int) - (a1.length : Int))) ≤ (a.length : Int) ∧ (a.length : Int) ≤ (a.length : Int) then
   some (decide ((List.drop (Int.toNat (IntKind.wrap .i64 ((a.length : Int) - (a1.length : Int)))) (List.take (Int.toNat (a.length : Int)) a)) = a1))
   else none
   else
   some false : Option Bool) fun w1 =>
 if w1 then
 some (IntKind.wrap .i64 ((a.length : Int) - (a1.length : Int)))
 else
 bd (Loop (tBytealgLastIndexRabinKarpStringL2 a a1 rA) (w, IntKind.wrap .i64 ((IntKind.wrap .i64 ((a.length : Int) - (a1.length : Int))) - 1))) fun w2 =>
 match w2 with
 | .inl p2 =>
   some (-1)
 | .inr p3 =>
   some p3
noncomputable def tStringsLastIndex (sA : List UInt8) (substr : List UInt8) : Option Int :=
 if (substr.length : Int) = 0 then
 some (sA.length : Int)
 else
 if (substr.length : Int) = 1 then
 if (0 : Int) ≤ 0 ∧ (0 : Int) < (substr.length : Int) then
 bd (tBytealgLastIndexByteString sA ((substr.getD (Int.toNat 0) 0).toNat : Int)) fun rA =>
 some rA
 else none
 else
 if (substr.length : Int) = (sA.length : Int) then
 if substr = sA then
 some 0
 else
 some (-1)
 else
 if (sA.length : Int) < (substr.length : Int) then
 some (-1)
 else
 bd (tBytealgLastIndexRabinKarpString sA substr) fun rA1 =>
 some rA1
noncomputable def tPathParent (p : List UInt8) : Option ((List UInt8) × Int) :=
 bd (tPathRight p) fun rA =>
 if !rA then
 some (([] : List UInt8), 13)
 else
 if p = ([47] : List UInt8) then
 some (([] : List UInt8), 6)
 else
 bd (tStringsLastIndex p ([47] : List UInt8)) fun rA1 =>
 if (0 : Int) ≤ 0 ∧ (0 : Int) ≤ (imax 1 rA1) ∧ (imax 1 rA1) ≤ (p.length : Int) then
 some (List.drop (Int.toNat 0) (List.take (Int.toNat (imax 1 rA1)) p), 0)
 else none
noncomputable def tCmpIsNaNString (x : List UInt8) : Option Bool :=
 some (!decide (x = x))
noncomputable def tCmpCompareString (x : List UInt8) (y : List UInt8) : Option Int :=
 bd (tCmpIsNaNString x) fun rA =>
 bd (tCmpIsNaNString y) fun rA1 =>
 if rA then
 if rA1 then
 some 0
 else
 some (-1)
 else
 if rA1 then
 some 1
 else
 if Op.bytesLess x y then
 some (-1)
 else
 if !(Op.bytesLess x y || decide (x = y)) then
 some 1
 else
 some 0
noncomputable def tSlicesCompareStringL1 (s1 : List (List UInt8)) (s2 : List (List UInt8)) (st : Int) : Option (Int ⊕ (Unit ⊕ Int)) :=
 if st < (s1.length : Int) then
 ix s1 st fun y =>
 if (s2.length : Int) ≤ st then
 some (.inr (.inr 1))
 else
 ix s2 st fun y1 =>
 bd (tCmpCompareString y y1) fun rA =>
 if !decide (rA = 0) then
 some (.inr (.inr rA))
 else
 some (.inl (IntKind.wrap .i64 (st + 1)))
 else
 some (.inr (.inl ()))
noncomputable def tSlicesCompareString (s1 : List (List UInt8)) (s2 : List (List UInt8)) : Option Int :=
 bd (Loop (tSlicesCompareStringL1 s1 s2) 0) fun w =>
 match w with
 | .inl p1 =>
   if (s1.length : Int) < (s2.length : Int) then
   some (-1)
   else
   some 0
 | .inr p2 =>
   some p2
noncomputable def tPathAhead (p : List UInt8) (q : List UInt8) : Option Bool :=
 bd (tPathInner p) fun rA =>
 bd (tPathInner q) fun rA1 =>
 bd (
   if rA.2 then
   if rA1.2 then
   bd (tSlicesCompareString rA.1 rA1.1) fun rA2 =>
   some (decide (rA2 < 0))
   else
   some false
   else
   some false : Option Bool) fun w =>
 some w
noncomputable def tL08Alive : Option Bool :=
 bd (tPathParent ([47, 97, 47, 98] : List UInt8)) fun rA =>
 bd (tPathParent ([47] : List UInt8)) fun rA1 =>
 bd (
   if rA.1 = ([47, 97] : List UInt8) then
   if rA.2 = 0 then
   if rA1.2 = 6 then
   bd (tPathRight ([47] : List UInt8)) fun rA2 =>
   if rA2 then
   bd (tPathRight ([97] : List UInt8)) fun rA3 =>
   if !rA3 then
   bd (tPathAhead ([47, 97, 47, 98] : List UInt8) ([47, 97, 45, 98] : List UInt8)) fun rA4 =>
   some rA4
   else
   some false
   else
   some false
   else
   some false
   else
   some false
   else
   some false : Option Bool) fun w =>
 some w
noncomputable def tPathNames (p : List UInt8) : Option ((List (List UInt8)) × Int) :=
 bd (tPathInner p) fun rA =>
 if !rA.2 then
 some (([] : List (List UInt8)), 13)
 else
 some (rA.1, 0)
noncomputable def tR08IsNameL1 (sA : List UInt8) (st : Int) : Option (Int ⊕ (Unit ⊕ Bool)) :=
 if st < (sA.length : Int) then
 if (0 : Int) ≤ st ∧ st < (sA.length : Int) then
 bd (
   if (97 : Int) ≤ ((sA.getD (Int.toNat st) 0).toNat : Int) then
   if ((sA.getD (Int.toNat st) 0).toNat : Int) ≤ 122 then
   some true
   else
   if (48 : Int) ≤ ((sA.getD (Int.toNat st) 0).toNat : Int) then
   if ((sA.getD (Int.toNat st) 0).toNat : Int) ≤ 57 then
   some true
   else
   if ((sA.getD (Int.toNat st) 0).toNat : Int) = 45 then
   some true
   else
   some (decide (((sA.getD (Int.toNat st) 0).toNat : Int) = 95))
   else
   if ((sA.getD (Int.toNat st) 0).toNat : Int) = 45 then
   some true
   else
   some (decide (((sA.getD (Int.toNat st) 0).toNat : Int) = 95))
   else
   if (48 : Int) ≤ ((sA.getD (Int.toNat st) 0).toNat : Int) then
   if ((sA.getD (Int.toNat st) 0).toNat : Int) ≤ 57 then
   some true
   else
   if ((sA.getD (Int.toNat st) 0).toNat : Int) = 45 then
   some true
   else
   some (decide (((sA.getD (Int.toNat st) 0).toNat : Int) = 95))
   else
   if ((sA.getD (Int.toNat st) 0).toNat : Int) = 45 then
   some true
   else
   some (decide (((sA.getD (Int.toNat st) 0).toNat : Int) = 95)) : Option Bool) fun w1 =>
 if !w1 then
 some (.inr (.inr false))
 else
 some (.inl (IntKind.wrap .i64 (st + 1)))
 else none
 else
 some (.inr (.inl ()))
noncomputable def tR08IsName (sA : List UInt8) : Option Bool :=
 bd (Loop (tR08IsNameL1 sA) 0) fun w =>
 match w with
 | .inl p1 =>
   bd (
     if (1 : Int) ≤ (sA.length : Int) then
     some (decide ((sA.length : Int) ≤ 30))
     else
     some false : Option Bool) fun w2 =>
   some w2
 | .inr p2 =>
   some p2
noncomputable def tR08CutL1 (p : List UInt8) (st : (List (List UInt8)) × (List UInt8) × Int) : Option (((List (List UInt8)) × (List UInt8) × Int) ⊕ ((List (List UInt8)) × (List UInt8))) :=
 if st.2.2 < (p.length : Int) then
 if (0 : Int) ≤ st.2.2 ∧ st.2.2 < (p.length : Int) then
 bd (
   if ((p.getD (Int.toNat st.2.2) 0).toNat : Int) = 47 then
   if (st.1.length + ([st.2.1] : List (List UInt8)).length) * 16 ≤ 2 ^ 46 then
   some (st.1 ++ ([st.2.1] : List (List UInt8)), ([] : List UInt8))
   else none
   else
   if (0 : Int) ≤ st.2.2 ∧ st.2.2 < (p.length : Int) then
   bysT ([((p.getD (Int.toNat st.2.2) 0).toNat : Int)] : List Int) fun bs =>
   if st.2.1.length + bs.length ≤ 2 ^ 46 then
   some (st.1, st.2.1 ++ bs)
   else none
   else none : Option ((List (List UInt8)) × (List UInt8))) fun w2 =>
 some (.inl (w2.1, w2.2, IntKind.wrap .i64 (st.2.2 + 1)))
 else none
 else
 some (.inr (st.1, st.2.1))
noncomputable def tR08Cut (p : List UInt8) : Option ((List (List UInt8)) × Bool) :=
 bd (
   if (p.length : Int) = 0 then
   some true
   else
   if (0 : Int) ≤ 0 ∧ (0 : Int) < (p.length : Int) then
   some (!decide (((p.getD (Int.toNat 0) 0).toNat : Int) = 47))
   else none : Option Bool) fun w =>
 if w then
 some (([] : List (List UInt8)), false)
 else
 if p = ([47] : List UInt8) then
 some (([] : List (List UInt8)), true)
 else
 bd (Loop (tR08CutL1 p) (([] : List (List UInt8)), ([] : List UInt8), 1)) fun w1 =>
 if (w1.1.length + ([w1.2] : List (List UInt8)).length) * 16 ≤ 2 ^ 46 then
 some (w1.1 ++ ([w1.2] : List (List UInt8)), true)
 else none
noncomputable def tR08RightL1 (rA : (List (List UInt8)) × Bool) (st : Int) : Option (Int ⊕ (Unit ⊕ Bool)) :=
 if st < (rA.1.length : Int) then
 ix rA.1 st fun y =>
 bd (tR08IsName y) fun rA1 =>
 if !rA1 then
 some (.inr (.inr false))
 else
 some (.inl (IntKind.wrap .i64 (st + 1)))
 else
 some (.inr (.inl ()))
noncomputable def tR08Right (p : List UInt8) : Option Bool :=
 if (100 : Int) < (p.length : Int) then
 some false
 else
 bd (tR08Cut p) fun rA =>
 bd (Loop (tR08RightL1 rA) 0) fun w =>
 match w with
 | .inl p3 =>
   bd (
     if rA.2 then
     some (decide ((rA.1.length : Int) ≤ 8))
     else
     some false : Option Bool) fun w1 =>
   some w1
 | .inr p4 =>
   some p4
noncomputable def tR08Names (p : List UInt8) : Option ((List (List UInt8)) × Int) :=
 bd (tR08Right p) fun rA =>
 if !rA then
 some (([] : List (List UInt8)), 13)
 else
 bd (tR08Cut p) fun rA1 =>
 some (rA1.1, 0)
noncomputable def tR08MadeL1 (lA : List (List UInt8)) (st : (List UInt8) × Int) : Option (((List UInt8) × Int) ⊕ (List UInt8)) :=
 if st.2 < (lA.length : Int) then
 if st.1.length + ([47] : List UInt8).length ≤ 2 ^ 46 then
 ix lA st.2 fun y =>
 if (st.1 ++ ([47] : List UInt8)).length + y.length ≤ 2 ^ 46 then
 some (.inl ((st.1 ++ ([47] : List UInt8)) ++ y, IntKind.wrap .i64 (st.2 + 1)))
 else none
 else none
 else
 some (.inr st.1)
noncomputable def tR08Made (lA : List (List UInt8)) : Option (List UInt8) :=
 bd (Loop (tR08MadeL1 lA) (([] : List UInt8), 0)) fun w =>
 if w = ([] : List UInt8) then
 some ([47] : List UInt8)
 else
 some w
noncomputable def tR08Parent (p : List UInt8) : Option ((List UInt8) × Int) :=
 bd (tR08Names p) fun rA =>
 if !decide (rA.2 = 0) then
 some (([] : List UInt8), rA.2)
 else
 if (rA.1.length : Int) = 0 then
 some (([] : List UInt8), 6)
 else
 if (0 : Int) ≤ 0 ∧ (0 : Int) ≤ (IntKind.wrap .i64 ((rA.1.length : Int) - 1)) ∧ (IntKind.wrap .i64 ((rA.1.length : Int) - 1)) ≤ (rA.1.length : Int) then
 bd (tR08Made (List.drop (Int.toNat 0) (List.take (Int.toNat (IntKind.wrap .i64 ((rA.1.length : Int) - 1))) rA.1))) fun rA1 =>
 some (rA1, 0)
 else none
noncomputable def tR01StringsL1 (a : List (List UInt8)) (b : List (List UInt8)) (st : Int) : Option (Int ⊕ (Unit ⊕ Bool)) :=
 if st < (a.length : Int) then
 ix a st fun y =>
 ix b st fun y1 =>
 if !decide (y = y1) then
 some (.inr (.inr false))
 else
 some (.inl (IntKind.wrap .i64 (st + 1)))
 else
 some (.inr (.inl ()))
noncomputable def tR01Strings (a : List (List UInt8)) (b : List (List UInt8)) : Option Bool :=
 if !decide ((a.length : Int) = (b.length : Int)) then
 some false
 else
 bd (Loop (tR01StringsL1 a b) 0) fun w =>
 match w with
 | .inl p1 =>
   some true
 | .inr p2 =>
   some p2
noncomputable def tL08PathTells (a : List UInt8) : Option Bool :=
 if (1000 : Int) < (a.length : Int) then
 bd (tL08Alive) fun rA =>
 some rA
 else
 bd (tPathNames a) fun rA1 =>
 bd (tR08Names a) fun rA2 =>
 bd (tPathParent a) fun rA3 =>
 bd (tR08Parent a) fun rA4 =>
 bd (
   bd (tL08Alive) fun rA5 =>
   if rA5 then
   bd (tPathIsName a) fun rA6 =>
   bd (tR08IsName a) fun rA7 =>
   if rA6 = rA7 then
   bd (tPathRight a) fun rA8 =>
   bd (tR08Right a) fun rA9 =>
   if rA8 = rA9 then
   bd (tR01Strings rA1.1 rA2.1) fun rA10 =>
   if rA10 then
   if rA1.2 = rA2.2 then
   if rA3.1 = rA4.1 then
   some (decide (rA3.2 = rA4.2))
   else
   some false
   else
   some false
   else
   some false
   else
   some false
   else
   some false
   else
   some false : Option Bool) fun w =>
 some w
noncomputable def tSlicesEqualStringL1 (s1 : List (List UInt8)) (s2 : List (List UInt8)) (st : Int) : Option (Int ⊕ (Unit ⊕ Bool)) :=
 if st < (s1.length : Int) then
 ix s1 st fun y =>
 ix s2 st fun y1 =>
 if !decide (y = y1) then
 some (.inr (.inr false))
 else
 some (.inl (IntKind.wrap .i64 (st + 1)))
 else
 some (.inr (.inl ()))
noncomputable def tSlicesEqualString (s1 : List (List UInt8)) (s2 : List (List UInt8)) : Option Bool :=
 if !decide ((s1.length : Int) = (s2.length : Int)) then
 some false
 else
 bd (Loop (tSlicesEqualStringL1 s1 s2) 0) fun w =>
 match w with
 | .inl p1 =>
   some true
 | .inr p2 =>
   some p2
noncomputable def tPathBelow (p : List UInt8) (q : List UInt8) : Option Bool :=
 bd (tPathInner p) fun rA =>
 bd (tPathInner q) fun rA1 =>
 bd (
   if rA.2 then
   if rA1.2 then
   if (rA.1.length : Int) < (rA1.1.length : Int) then
   if (0 : Int) ≤ 0 ∧ (0 : Int) ≤ (rA.1.length : Int) ∧ (rA.1.length : Int) ≤ (rA1.1.length : Int) then
   bd (tSlicesEqualString rA.1 (List.drop (Int.toNat 0) (List.take (Int.toNat (rA.1.length : Int)) rA1.1))) fun rA2 =>
   some rA2
   else none
   else
   some false
   else
   some false
   else
   some false : Option Bool) fun w =>
 some w
noncomputable def tL08PathOrder (a : List UInt8) (a1 : List UInt8) (a2 : List UInt8) : Option Bool :=
 bd (
   if (1000 : Int) < (a.length : Int) then
   some true
   else
   if (1000 : Int) < (a1.length : Int) then
   some true
   else
   if (1000 : Int) < (a2.length : Int) then
   some true
   else
   bd (tPathRight a) fun rA =>
   if !rA then
   some true
   else
   bd (tPathRight a1) fun rA1 =>
   if !rA1 then
   some true
   else
   bd (tPathRight a2) fun rA2 =>
   some (!rA2) : Option Bool) fun w =>
 if w then
 bd (tL08Alive) fun rA3 =>
 some rA3
 else
 bd (
   bd (tPathAhead a a) fun rA4 =>
   if rA4 then
   some true
   else
   if !decide (a = a1) then
   bd (tPathAhead a a1) fun rA5 =>
   bd (tPathAhead a1 a) fun rA6 =>
   if rA5 = rA6 then
   some true
   else
   bd (tPathAhead a a1) fun rA7 =>
   if rA7 then
   bd (tPathAhead a1 a2) fun rA8 =>
   if rA8 then
   bd (tPathAhead a a2) fun rA9 =>
   some (!rA9)
   else
   some false
   else
   some false
   else
   bd (tPathAhead a a1) fun rA10 =>
   if rA10 then
   bd (tPathAhead a1 a2) fun rA11 =>
   if rA11 then
   bd (tPathAhead a a2) fun rA12 =>
   some (!rA12)
   else
   some false
   else
   some false : Option Bool) fun w1 =>
 if w1 then
 some false
 else
 bd (
   bd (tPathAhead a a1) fun rA13 =>
   if rA13 then
   bd (tPathAhead a1 a2) fun rA14 =>
   if rA14 then
   bd (tPathBelow a a2) fun rA15 =>
   some rA15
   else
   some false
   else
   some false : Option Bool) fun w2 =>
 bd (
   bd (tL08Alive) fun rA16 =>
   if rA16 then
   bd (tPathBelow a a1) fun rA17 =>
   if !rA17 then
   if !w2 then
   some true
   else
   bd (tPathBelow a a1) fun rA18 =>
   some rA18
   else
   bd (tPathAhead a a1) fun rA19 =>
   if rA19 then
   if !w2 then
   some true
   else
   bd (tPathBelow a a1) fun rA20 =>
   some rA20
   else
   some false
   else
   some false : Option Bool) fun w3 =>
 some w3
noncomputable def tL11FewL1 (t : WatchTable) (st : Int) : Option (Int ⊕ (Unit ⊕ Bool)) :=
 if st < (t.L.length : Int) then
 bd (
   if st = 60 then
   some true
   else
   ix t.L st fun y =>
   some (decide ((300 : Int) < (y.Path.length : Int))) : Option Bool) fun w1 =>
 if w1 then
 some (.inr (.inr false))
 else
 some (.inl (IntKind.wrap .i64 (st + 1)))
 else
 some (.inr (.inl ()))
noncomputable def tL11Few (t : WatchTable) : Option Bool :=
 bd (Loop (tL11FewL1 t) 0) fun w =>
 match w with
 | .inl p1 =>
   some true
 | .inr p2 =>
   some p2
noncomputable def tR11HasL1 (lA : List R11Watch) (w : R11Watch) (st : Int) : Option (Int ⊕ (Unit ⊕ Bool)) :=
 if st < (lA.length : Int) then
 ix lA st fun y =>
 if ((decide (y.Path = w.Path)) && ((decide (y.Client = w.Client)) && (decide (y.Kids = w.Kids)))) then
 some (.inr (.inr true))
 else
 some (.inl (IntKind.wrap .i64 (st + 1)))
 else
 some (.inr (.inl ()))
noncomputable def tR11Has (lA : List R11Watch) (w : R11Watch) : Option Bool :=
 bd (Loop (tR11HasL1 lA w) 0) fun w1 =>
 match w1 with
 | .inl p1 =>
   some false
 | .inr p2 =>
   some p2
noncomputable def tR11RightL1 (t : R11Table) (st : Int) : Option (Int ⊕ (Unit ⊕ Bool)) :=
 if st < (t.L.length : Int) then
 bd (
   ix t.L st fun y =>
   bd (tR08Right y.Path) fun rA =>
   if !rA then
   some true
   else
   ix t.L st fun y1 =>
   if y1.Client < 0 then
   some true
   else
   if (0 : Int) ≤ 0 ∧ (0 : Int) ≤ st ∧ st ≤ (t.L.length : Int) then
   ix t.L st fun y2 =>
   bd (tR11Has (List.drop (Int.toNat 0) (List.take (Int.toNat st) t.L)) y2) fun rA1 =>
   some rA1
   else none : Option Bool) fun w1 =>
 if w1 then
 some (.inr (.inr false))
 else
 some (.inl (IntKind.wrap .i64 (st + 1)))
 else
 some (.inr (.inl ()))
noncomputable def tR11Right (t : R11Table) : Option Bool :=
 bd (Loop (tR11RightL1 t) 0) fun w =>
 match w with
 | .inl p1 =>
   some (decide ((t.L.length : Int) ≤ 200))
 | .inr p2 =>
   some p2
noncomputable def tL11One (w : WatchWatch) : Option R11Watch :=
 some (⟨w.Path, w.Client, w.Kids⟩ : R11Watch)
noncomputable def tL11PlainL1 (t : WatchTable) (st : (List R11Watch) × Int) : Option (((List R11Watch) × Int) ⊕ (List R11Watch)) :=
 if st.2 < (t.L.length : Int) then
 ix t.L st.2 fun y =>
 bd (tL11One y) fun rA =>
 if (st.1.length + ([rA] : List R11Watch).length) * 32 ≤ 2 ^ 46 then
 some (.inl (st.1 ++ ([rA] : List R11Watch), IntKind.wrap .i64 (st.2 + 1)))
 else none
 else
 some (.inr st.1)
noncomputable def tL11Plain (t : WatchTable) : Option R11Table :=
 bd (Loop (tL11PlainL1 t) (([] : List R11Watch), 0)) fun w =>
 some (⟨w⟩ : R11Table)
noncomputable def tL11ShortL1 (lA : List WatchChange) (st : Int) : Option (Int ⊕ (Unit ⊕ Bool)) :=
 if st < (lA.length : Int) then
 bd (
   if st = 40 then
   some true
   else
   ix lA st fun y =>
   some (decide ((300 : Int) < (y.Path.length : Int))) : Option Bool) fun w1 =>
 if w1 then
 some (.inr (.inr false))
 else
 some (.inl (IntKind.wrap .i64 (st + 1)))
 else
 some (.inr (.inl ()))
noncomputable def tL11Short (lA : List WatchChange) : Option Bool :=
 bd (Loop (tL11ShortL1 lA) 0) fun w =>
 match w with
 | .inl p1 =>
   some true
 | .inr p2 =>
   some p2
noncomputable def tWatchTouches (c : WatchChange) (w : WatchWatch) : Option Bool :=
 bd (
   if c.Kind < 1 then
   some true
   else
   if (3 : Int) < c.Kind then
   some true
   else
   bd (tPathRight c.Path) fun rA =>
   some (!rA) : Option Bool) fun w1 =>
 if w1 then
 some false
 else
 if !w.Kids then
 some (decide (c.Path = w.Path))
 else
 bd (tPathParent c.Path) fun rA1 =>
 bd (
   if rA1.2 = 0 then
   if !decide (c.Kind = 2) then
   some (decide (rA1.1 = w.Path))
   else
   some false
   else
   some false : Option Bool) fun w2 =>
 some w2
noncomputable def tWatchFireF1 (w : WatchWatch) (c : WatchChange) (c1 : List WatchEvent) : Option (Bool × (List WatchEvent)) :=
 bd (tWatchTouches c w) fun rA =>
 bd (
   if rA then
   if (c1.length + ([(⟨w, c⟩ : WatchEvent)] : List WatchEvent).length) * 56 ≤ 2 ^ 46 then
   some (c1 ++ ([(⟨w, c⟩ : WatchEvent)] : List WatchEvent))
   else none
   else
   some c1 : Option (List WatchEvent)) fun w1 =>
 some (rA, w1)
noncomputable def tWatchFireL1 (lA : List WatchChange) (st : (List WatchWatch) × (List WatchEvent) × Int) : Option (((List WatchWatch) × (List WatchEvent) × Int) ⊕ ((List WatchWatch) × (List WatchEvent))) :=
 if st.2.2 < (lA.length : Int) then
 ix lA st.2.2 fun y =>
 bd (tDelC (fun u sA => tWatchFireF1 u y sA) st.2.1 st.1) fun rA1 =>
 some (.inl (rA1.1, rA1.2, IntKind.wrap .i64 (st.2.2 + 1)))
 else
 some (.inr (st.1, st.2.1))
noncomputable def tWatchFire (t : WatchTable) (lA : List WatchChange) : Option (WatchTable × (List WatchEvent)) :=
 bd (tClone 32 t.L) fun rA =>
 bd (Loop (tWatchFireL1 lA) (rA, ([] : List WatchEvent), 0)) fun w =>
 some ((⟨w.1⟩ : WatchTable), w.2)
noncomputable def tSlicesIndexWatchWatchL1 (sA : List WatchWatch) (v : WatchWatch) (st : Int) : Option (Int ⊕ (Unit ⊕ Int)) :=
 if st < (sA.length : Int) then
 ix sA st fun y =>
 if ((decide (v.Path = y.Path)) && ((decide (v.Client = y.Client)) && (decide (v.Kids = y.Kids)))) then
 some (.inr (.inr st))
 else
 some (.inl (IntKind.wrap .i64 (st + 1)))
 else
 some (.inr (.inl ()))
noncomputable def tSlicesIndexWatchWatch (sA : List WatchWatch) (v : WatchWatch) : Option Int :=
 bd (Loop (tSlicesIndexWatchWatchL1 sA v) 0) fun w =>
 match w with
 | .inl p1 =>
   some (-1)
 | .inr p2 =>
   some p2
noncomputable def tSlicesContainsWatchWatch (sA : List WatchWatch) (v : WatchWatch) : Option Bool :=
 bd (tSlicesIndexWatchWatch sA v) fun rA =>
 some (decide ((0 : Int) ≤ rA))
noncomputable def tWatchAdd (t : WatchTable) (w : WatchWatch) : Option (WatchTable × Int) :=
 bd (tPathRight w.Path) fun rA =>
 if !rA then
 some (t, 13)
 else
 if w.Client < 0 then
 some (t, 1)
 else
 bd (tSlicesContainsWatchWatch t.L w) fun rA1 =>
 if rA1 then
 some (t, 0)
 else
 if (200 : Int) ≤ (t.L.length : Int) then
 some (t, 9)
 else
 bd (tClone 32 t.L) fun rA2 =>
 if (rA2.length + ([w] : List WatchWatch).length) * 32 ≤ 2 ^ 46 then
 some ((⟨rA2 ++ ([w] : List WatchWatch)⟩ : WatchTable), 0)
 else none
noncomputable def tL11Alive : Option Bool :=
 bd (tWatchAdd (⟨([] : List WatchWatch)⟩ : WatchTable) (⟨([47, 97] : List UInt8), 1, true⟩ : WatchWatch)) fun rA =>
 bd (tWatchFire rA.1 ([(⟨2, ([47, 97, 47, 98] : List UInt8)⟩ : WatchChange), (⟨1, ([47, 97, 47, 98] : List UInt8)⟩ : WatchChange)] : List WatchChange)) fun rA1 =>
 bd (
   if rA.2 = 0 then
   if (rA.1.L.length : Int) = 1 then
   if (rA1.1.L.length : Int) = 0 then
   if (rA1.2.length : Int) = 1 then
   ix rA1.2 0 fun y =>
   some (decide (y.C.Kind = 1))
   else
   some false
   else
   some false
   else
   some false
   else
   some false : Option Bool) fun w =>
 some w
noncomputable def tL11WatchOnceL1 (a1 : List WatchChange) (y : WatchWatch) (st1 : Int × Int) : Option ((Int × Int) ⊕ Int) :=
 if (0 : Int) ≤ st1.2 then
 ix a1 st1.2 fun y1 =>
 bd (tWatchTouches y1 y) fun rA6 =>
 bd (
   if rA6 then
   some st1.2
   else
   some st1.1 : Option Int) fun w3 =>
 some (.inl (w3, IntKind.wrap .i64 (st1.2 - 1)))
 else
 some (.inr st1.1)
noncomputable def tL11WatchOnceL2 (a1 : List WatchChange) (rA5 : WatchTable × (List WatchEvent)) (y : WatchWatch) (w2 : Int) (st2 : Int × Int) : Option ((Int × Int) ⊕ (Int ⊕ Bool)) :=
 if st2.2 < (rA5.2.length : Int) then
 ix rA5.2 st2.2 fun y2 =>
 bd (
   if ((decide (y2.W.Path = y.Path)) && ((decide (y2.W.Client = y.Client)) && (decide (y2.W.Kids = y.Kids)))) then
   bd (
     if w2 < 0 then
     some true
     else
     ix rA5.2 st2.2 fun y3 =>
     ix a1 w2 fun y4 =>
     some (!((decide (y3.C.Kind = y4.Kind)) && (decide (y3.C.Path = y4.Path)))) : Option Bool) fun w6 =>
   if w6 then
   some (.inl false)
   else
   some (.inr (IntKind.wrap .i64 (st2.1 + 1)))
   else
   some (.inr st2.1) : Option (Bool ⊕ Int)) fun w5 =>
 match w5 with
 | .inl p5 =>
   some (.inr (.inr p5))
 | .inr p6 =>
   some (.inl (p6, IntKind.wrap .i64 (st2.2 + 1)))
 else
 some (.inr (.inl st2.1))
noncomputable def tL11WatchOnceL3 (rA5 : WatchTable × (List WatchEvent)) (y : WatchWatch) (w2 : Int) (st3 : Int) : Option (Int ⊕ (Unit ⊕ Bool)) :=
 if st3 < (rA5.1.L.length : Int) then
 bd (
   ix rA5.1.L st3 fun y5 =>
   if ((decide (y5.Path = y.Path)) && ((decide (y5.Client = y.Client)) && (decide (y5.Kids = y.Kids)))) then
   some (decide ((0 : Int) ≤ w2))
   else
   some false : Option Bool) fun w8 =>
 if w8 then
 some (.inr (.inr false))
 else
 some (.inl (IntKind.wrap .i64 (st3 + 1)))
 else
 some (.inr (.inl ()))
noncomputable def tL11WatchOnceL4 (a : WatchTable) (a1 : List WatchChange) (rA5 : WatchTable × (List WatchEvent)) (st : Int) : Option (Int ⊕ (Unit ⊕ Bool)) :=
 if st < (a.L.length : Int) then
 ix a.L st fun y =>
 bd (Loop (tL11WatchOnceL1 a1 y) ((-1), IntKind.wrap .i64 ((a1.length : Int) - 1))) fun w2 =>
 bd (Loop (tL11WatchOnceL2 a1 rA5 y w2) (0, 0)) fun w4 =>
 match w4 with
 | .inl p7 =>
   bd (Loop (tL11WatchOnceL3 rA5 y w2) 0) fun w7 =>
   match w7 with
   | .inl p10 =>
     bd (
       if p7 = 0 then
       if (0 : Int) ≤ w2 then
       some true
       else
       some (decide ((1 : Int) < p7))
       else
       some (decide ((1 : Int) < p7)) : Option Bool) fun w9 =>
     if w9 then
     some (.inr (.inr false))
     else
     some (.inl (IntKind.wrap .i64 (st + 1)))
   | .inr p11 =>
     some (.inr (.inr p11))
 | .inr p8 =>
   some (.inr (.inr p8))
 else
 some (.inr (.inl ()))
noncomputable def tL11WatchOnce (a : WatchTable) (a1 : List WatchChange) : Option Bool :=
 bd (
   bd (tL11Few a) fun rA =>
   if !rA then
   some true
   else
   bd (tL11Plain a) fun rA1 =>
   bd (tR11Right rA1) fun rA2 =>
   if !rA2 then
   some true
   else
   bd (tL11Short a1) fun rA3 =>
   some (!rA3) : Option Bool) fun w =>
 if w then
 bd (tL11Alive) fun rA4 =>
 some rA4
 else
 bd (tWatchFire a a1) fun rA5 =>
 if !decide ((IntKind.wrap .i64 ((rA5.1.L.length : Int) + (rA5.2.length : Int))) = (a.L.length : Int)) then
 some false
 else
 bd (Loop (tL11WatchOnceL4 a a1 rA5) 0) fun w1 =>
 match w1 with
 | .inl p12 =>
   bd (tL11Alive) fun rA7 =>
   some rA7
 | .inr p13 =>
   some p13
noncomputable def tR11Add (t : R11Table) (w : R11Watch) : Option (R11Table × Int) :=
 bd (tR08Right w.Path) fun rA =>
 if !rA then
 some (t, 13)
 else
 if w.Client < 0 then
 some (t, 1)
 else
 bd (tR11Has t.L w) fun rA1 =>
 if rA1 then
 some (t, 0)
 else
 if (200 : Int) ≤ (t.L.length : Int) then
 some (t, 9)
 else
 if (([] : List R11Watch).length + t.L.length) * 32 ≤ 2 ^ 46 then
 if ((([] : List R11Watch) ++ t.L).length + ([w] : List R11Watch).length) * 32 ≤ 2 ^ 46 then
 some ((⟨(([] : List R11Watch) ++ t.L) ++ ([w] : List R11Watch)⟩ : R11Table), 0)
 else none
 else none
noncomputable def tR11Touches (c : R11Change) (w : R11Watch) : Option Bool :=
 bd (
   if c.Kind < 1 then
   some true
   else
   if (3 : Int) < c.Kind then
   some true
   else
   bd (tR08Right c.Path) fun rA =>
   some (!rA) : Option Bool) fun w1 =>
 if w1 then
 some false
 else
 if !w.Kids then
 some (decide (c.Path = w.Path))
 else
 bd (tR08Parent c.Path) fun rA1 =>
 bd (
   if !decide (c.Kind = 2) then
   if rA1.2 = 0 then
   some (decide (rA1.1 = w.Path))
   else
   some false
   else
   some false : Option Bool) fun w2 =>
 some w2
noncomputable def tR11FireL1 (lA : List R11Change) (st : (List R11Watch) × (List R11Event) × Int) (st1 : (List R11Event) × (List R11Watch) × Int) : Option (((List R11Event) × (List R11Watch) × Int) ⊕ ((List R11Event) × (List R11Watch))) :=
 if st1.2.2 < (st.1.length : Int) then
 ix lA st.2.2 fun y =>
 ix st.1 st1.2.2 fun y1 =>
 bd (tR11Touches y y1) fun rA =>
 bd (
   if rA then
   ix st.1 st1.2.2 fun y2 =>
   ix lA st.2.2 fun y3 =>
   if (st1.1.length + ([(⟨y2, y3⟩ : R11Event)] : List R11Event).length) * 56 ≤ 2 ^ 46 then
   some (st1.1 ++ ([(⟨y2, y3⟩ : R11Event)] : List R11Event), st1.2.1)
   else none
   else
   ix st.1 st1.2.2 fun y4 =>
   if (st1.2.1.length + ([y4] : List R11Watch).length) * 32 ≤ 2 ^ 46 then
   some (st1.1, st1.2.1 ++ ([y4] : List R11Watch))
   else none : Option ((List R11Event) × (List R11Watch))) fun w2 =>
 some (.inl (w2.1, w2.2, IntKind.wrap .i64 (st1.2.2 + 1)))
 else
 some (.inr (st1.1, st1.2.1))
noncomputable def tR11FireL2 (lA : List R11Change) (st : (List R11Watch) × (List R11Event) × Int) : Option (((List R11Watch) × (List R11Event) × Int) ⊕ ((List R11Watch) × (List R11Event))) :=
 if st.2.2 < (lA.length : Int) then
 bd (Loop (tR11FireL1 lA st) (st.2.1, ([] : List R11Watch), 0)) fun w1 =>
 some (.inl (w1.2, w1.1, IntKind.wrap .i64 (st.2.2 + 1)))
 else
 some (.inr (st.1, st.2.1))
noncomputable def tR11Fire (t : R11Table) (lA : List R11Change) : Option (R11Table × (List R11Event)) :=
 if (([] : List R11Watch).length + t.L.length) * 32 ≤ 2 ^ 46 then
 bd (Loop (tR11FireL2 lA) (([] : List R11Watch) ++ t.L, ([] : List R11Event), 0)) fun w =>
 some ((⟨w.1⟩ : R11Table), w.2)
 else none
noncomputable def tL11ChangesL1 (lA : List WatchChange) (st : (List R11Change) × Int) : Option (((List R11Change) × Int) ⊕ (List R11Change)) :=
 if st.2 < (lA.length : Int) then
 ix lA st.2 fun y =>
 ix lA st.2 fun y1 =>
 if (st.1.length + ([(⟨y.Kind, y1.Path⟩ : R11Change)] : List R11Change).length) * 24 ≤ 2 ^ 46 then
 some (.inl (st.1 ++ ([(⟨y.Kind, y1.Path⟩ : R11Change)] : List R11Change), IntKind.wrap .i64 (st.2 + 1)))
 else none
 else
 some (.inr st.1)
noncomputable def tL11Changes (lA : List WatchChange) : Option (List R11Change) :=
 bd (Loop (tL11ChangesL1 lA) (([] : List R11Change), 0)) fun w =>
 some w
noncomputable def tR11SameL1 (a : R11Table) (b : R11Table) (st : Int) : Option (Int ⊕ (Unit ⊕ Bool)) :=
 if st < (a.L.length : Int) then
 ix a.L st fun y =>
 ix b.L st fun y1 =>
 if !((decide (y.Path = y1.Path)) && ((decide (y.Client = y1.Client)) && (decide (y.Kids = y1.Kids)))) then
 some (.inr (.inr false))
 else
 some (.inl (IntKind.wrap .i64 (st + 1)))
 else
 some (.inr (.inl ()))
noncomputable def tR11Same (a : R11Table) (b : R11Table) : Option Bool :=
 if !decide ((a.L.length : Int) = (b.L.length : Int)) then
 some false
 else
 bd (Loop (tR11SameL1 a b) 0) fun w =>
 match w with
 | .inl p1 =>
   some true
 | .inr p2 =>
   some p2
noncomputable def tR11EventsL1 (a : List R11Event) (b : List R11Event) (st : Int) : Option (Int ⊕ (Unit ⊕ Bool)) :=
 if st < (a.length : Int) then
 ix a st fun y =>
 ix b st fun y1 =>
 if !((decide (y.W.Path = y1.W.Path)) && ((decide (y.W.Client = y1.W.Client)) && ((decide (y.W.Kids = y1.W.Kids)) && ((decide (y.C.Kind = y1.C.Kind)) && (decide (y.C.Path = y1.C.Path)))))) then
 some (.inr (.inr false))
 else
 some (.inl (IntKind.wrap .i64 (st + 1)))
 else
 some (.inr (.inl ()))
noncomputable def tR11Events (a : List R11Event) (b : List R11Event) : Option Bool :=
 if !decide ((a.length : Int) = (b.length : Int)) then
 some false
 else
 bd (Loop (tR11EventsL1 a b) 0) fun w =>
 match w with
 | .inl p1 =>
   some true
 | .inr p2 =>
   some p2
noncomputable def tL11EventsL1 (lA : List WatchEvent) (st : (List R11Event) × Int) : Option (((List R11Event) × Int) ⊕ (List R11Event)) :=
 if st.2 < (lA.length : Int) then
 ix lA st.2 fun y =>
 ix lA st.2 fun y1 =>
 ix lA st.2 fun y2 =>
 bd (tL11One y.W) fun rA =>
 if (st.1.length + ([(⟨rA, (⟨y1.C.Kind, y2.C.Path⟩ : R11Change)⟩ : R11Event)] : List R11Event).length) * 56 ≤ 2 ^ 46 then
 some (.inl (st.1 ++ ([(⟨rA, (⟨y1.C.Kind, y2.C.Path⟩ : R11Change)⟩ : R11Event)] : List R11Event), IntKind.wrap .i64 (st.2 + 1)))
 else none
 else
 some (.inr st.1)
noncomputable def tL11Events (lA : List WatchEvent) : Option (List R11Event) :=
 bd (Loop (tL11EventsL1 lA) (([] : List R11Event), 0)) fun w =>
 some w
noncomputable def tWatchCancelF1 (w : WatchWatch) (c : Int) : Option Bool :=
 some (decide (w.Client = c))
noncomputable def tWatchCancel (t : WatchTable) (client : Int) : Option WatchTable :=
 bd (tClone 32 t.L) fun rA =>
 bd (tDelP (fun u => tWatchCancelF1 u client) rA) fun rA1 =>
 some (⟨rA1⟩ : WatchTable)
noncomputable def tR11CancelL1 (t : R11Table) (client : Int) (st : (List R11Watch) × Int) : Option (((List R11Watch) × Int) ⊕ (List R11Watch)) :=
 if st.2 < (t.L.length : Int) then
 ix t.L st.2 fun y =>
 bd (
   if !decide (y.Client = client) then
   ix t.L st.2 fun y1 =>
   if (st.1.length + ([y1] : List R11Watch).length) * 32 ≤ 2 ^ 46 then
   some (st.1 ++ ([y1] : List R11Watch))
   else none
   else
   some st.1 : Option (List R11Watch)) fun w1 =>
 some (.inl (w1, IntKind.wrap .i64 (st.2 + 1)))
 else
 some (.inr st.1)
noncomputable def tR11Cancel (t : R11Table) (client : Int) : Option R11Table :=
 bd (Loop (tR11CancelL1 t client) (([] : List R11Watch), 0)) fun w =>
 some (⟨w⟩ : R11Table)
noncomputable def tL11WatchTurns (a : WatchTable) (a1 : WatchWatch) (a2 : List WatchChange) : Option Bool :=
 bd (
   bd (tL11Few a) fun rA =>
   if !rA then
   some true
   else
   bd (tL11Plain a) fun rA1 =>
   bd (tR11Right rA1) fun rA2 =>
   if !rA2 then
   some true
   else
   if (300 : Int) < (a1.Path.length : Int) then
   some true
   else
   bd (tL11Short a2) fun rA3 =>
   some (!rA3) : Option Bool) fun w =>
 if w then
 bd (tL11Alive) fun rA4 =>
 some rA4
 else
 bd (tL11Plain a) fun rA5 =>
 bd (tWatchAdd a a1) fun rA6 =>
 bd (tL11One a1) fun rA7 =>
 bd (tR11Add rA5 rA7) fun rA8 =>
 bd (tWatchFire a a2) fun rA9 =>
 bd (tL11Changes a2) fun rA10 =>
 bd (tR11Fire rA5 rA10) fun rA11 =>
 bd (
   bd (tL11Plain rA6.1) fun rA12 =>
   bd (tR11Same rA12 rA8.1) fun rA13 =>
   if !rA13 then
   some true
   else
   if !decide (rA6.2 = rA8.2) then
   some true
   else
   bd (tL11Plain rA9.1) fun rA14 =>
   bd (tR11Same rA14 rA11.1) fun rA15 =>
   some (!rA15) : Option Bool) fun w1 =>
 if w1 then
 some false
 else
 bd (
   bd (tL11Alive) fun rA16 =>
   if rA16 then
   bd (tL11Events rA9.2) fun rA17 =>
   bd (tR11Events rA17 rA11.2) fun rA18 =>
   if rA18 then
   bd (tWatchCancel a a1.Client) fun rA19 =>
   bd (tL11Plain rA19) fun rA20 =>
   bd (tR11Cancel rA5 a1.Client) fun rA21 =>
   bd (tR11Same rA20 rA21) fun rA22 =>
   if rA22 then
   bd (tL11Plain a) fun rA23 =>
   bd (tR11Same rA23 rA5) fun rA24 =>
   some rA24
   else
   some false
   else
   some false
   else
   some false : Option Bool) fun w2 =>
 some w2
noncomputable def tL11WatchCancelsL1 (a1 : WatchWatch) (rA5 : WatchTable × (List WatchEvent)) (st : (List WatchEvent) × Int) : Option (((List WatchEvent) × Int) ⊕ (List WatchEvent)) :=
 if st.2 < (rA5.2.length : Int) then
 ix rA5.2 st.2 fun y =>
 bd (
   if !decide (y.W.Client = a1.Client) then
   ix rA5.2 st.2 fun y1 =>
   if (st.1.length + ([y1] : List WatchEvent).length) * 56 ≤ 2 ^ 46 then
   some (st.1 ++ ([y1] : List WatchEvent))
   else none
   else
   some st.1 : Option (List WatchEvent)) fun w2 =>
 some (.inl (w2, IntKind.wrap .i64 (st.2 + 1)))
 else
 some (.inr st.1)
noncomputable def tL11WatchCancelsL2 (a1 : WatchWatch) (a2 : List WatchChange) (st1 : Bool × Int) : Option ((Bool × Int) ⊕ Bool) :=
 if st1.2 < (a2.length : Int) then
 bd (
   if st1.1 then
   some true
   else
   ix a2 st1.2 fun y2 =>
   bd (tWatchTouches y2 a1) fun rA10 =>
   some rA10 : Option Bool) fun w4 =>
 some (.inl (w4, IntKind.wrap .i64 (st1.2 + 1)))
 else
 some (.inr st1.1)
noncomputable def tL11WatchCancelsL3 (a1 : WatchWatch) (rA9 : WatchTable × (List WatchEvent)) (st2 : Bool × Int) : Option ((Bool × Int) ⊕ Bool) :=
 if st2.2 < (rA9.2.length : Int) then
 bd (
   if st2.1 then
   some true
   else
   ix rA9.2 st2.2 fun y3 =>
   some ((decide (y3.W.Path = a1.Path)) && ((decide (y3.W.Client = a1.Client)) && (decide (y3.W.Kids = a1.Kids)))) : Option Bool) fun w6 =>
 some (.inl (w6, IntKind.wrap .i64 (st2.2 + 1)))
 else
 some (.inr st2.1)
noncomputable def tL11WatchCancels (a : WatchTable) (a1 : WatchWatch) (a2 : List WatchChange) : Option Bool :=
 bd (
   bd (tL11Few a) fun rA =>
   if !rA then
   some true
   else
   bd (tL11Plain a) fun rA1 =>
   bd (tR11Right rA1) fun rA2 =>
   if !rA2 then
   some true
   else
   bd (tL11Short a2) fun rA3 =>
   if !rA3 then
   some true
   else
   some (decide ((300 : Int) < (a1.Path.length : Int))) : Option Bool) fun w =>
 if w then
 bd (tL11Alive) fun rA4 =>
 some rA4
 else
 bd (tWatchFire a a2) fun rA5 =>
 bd (tWatchCancel a a1.Client) fun rA6 =>
 bd (tWatchFire rA6 a2) fun rA7 =>
 bd (Loop (tL11WatchCancelsL1 a1 rA5) (([] : List WatchEvent), 0)) fun w1 =>
 bd (tWatchAdd a a1) fun rA8 =>
 bd (tWatchFire rA8.1 a2) fun rA9 =>
 bd (Loop (tL11WatchCancelsL2 a1 a2) (false, 0)) fun w3 =>
 bd (Loop (tL11WatchCancelsL3 a1 rA9) (false, 0)) fun w5 =>
 bd (
   bd (tL11Alive) fun rA11 =>
   if rA11 then
   bd (tL11Events rA7.2) fun rA12 =>
   bd (tL11Events w1) fun rA13 =>
   bd (tR11Events rA12 rA13) fun rA14 =>
   if rA14 then
   if !decide (rA8.2 = 0) then
   some true
   else
   if w5 = w3 then
   some (decide ((IntKind.wrap .i64 ((rA9.1.L.length : Int) + (rA9.2.length : Int))) = (rA8.1.L.length : Int)))
   else
   some false
   else
   some false
   else
   some false : Option Bool) fun w7 =>
 some w7
noncomputable def tStringsliteHasSuffix (sA : List UInt8) (suffix : List UInt8) : Option Bool :=
 bd (
   if (suffix.length : Int) ≤ (sA.length : Int) then
   if (0 : Int) ≤ (IntKind.wrap .i64 ((sA.length : Int) - (suffix.length : Int))) ∧ (IntKind.wrap .i64 ((sA.length : Int) - (suffix.length : Int))) ≤ (sA.length : Int) ∧ (sA.length : Int) ≤ (sA.length : Int) then
   some (decide ((List.drop (Int.toNat (IntKind.wrap .i64 ((sA.length : Int) - (suffix.length : Int)))) (List.take (Int.toNat (sA.length : Int)) sA)) = suffix))
   else none
   else
   some false : Option Bool) fun w =>
 some w
noncomputable def tStringsliteTrimSuffix (sA : List UInt8) (suffix : List UInt8) : Option (List UInt8) :=
 bd (tStringsliteHasSuffix sA suffix) fun rA =>
 if rA then
 if (0 : Int) ≤ 0 ∧ (0 : Int) ≤ (IntKind.wrap .i64 ((sA.length : Int) - (suffix.length : Int))) ∧ (IntKind.wrap .i64 ((sA.length : Int) - (suffix.length : Int))) ≤ (sA.length : Int) then
 some (List.drop (Int.toNat 0) (List.take (Int.toNat (IntKind.wrap .i64 ((sA.length : Int) - (suffix.length : Int)))) sA))
 else none
 else
 some sA
noncomputable def tStringsTrimSuffix (sA : List UInt8) (suffix : List UInt8) : Option (List UInt8) :=
 bd (tStringsliteTrimSuffix sA suffix) fun rA =>
 some rA
noncomputable def tPathJoin (p : List UInt8) (name : List UInt8) : Option ((List UInt8) × Int) :=
 bd (tStringsTrimSuffix p ([47] : List UInt8)) fun rA =>
 if rA.length + ([47] : List UInt8).length ≤ 2 ^ 46 then
 if (rA ++ ([47] : List UInt8)).length + name.length ≤ 2 ^ 46 then
 bd (
   bd (tPathRight p) fun rA1 =>
   if !rA1 then
   some true
   else
   bd (tPathIsName name) fun rA2 =>
   if !rA2 then
   some true
   else
   bd (tPathRight ((rA ++ ([47] : List UInt8)) ++ name)) fun rA3 =>
   some (!rA3) : Option Bool) fun w =>
 if w then
 some (([] : List UInt8), 13)
 else
 some ((rA ++ ([47] : List UInt8)) ++ name, 0)
 else none
 else none
noncomputable def tR08Join (p : List UInt8) (name : List UInt8) : Option ((List UInt8) × Int) :=
 bd (tR08Names p) fun rA =>
 bd (
   if !decide (rA.2 = 0) then
   some true
   else
   bd (tR08IsName name) fun rA1 =>
   some (!rA1) : Option Bool) fun w =>
 if w then
 some (([] : List UInt8), 13)
 else
 none
noncomputable def tR08BelowL1 (rA : (List (List UInt8)) × Int) (rA1 : (List (List UInt8)) × Int) (st : Int) : Option (Int ⊕ (Unit ⊕ Bool)) :=
 if st < (rA.1.length : Int) then
 ix rA.1 st fun y =>
 ix rA1.1 st fun y1 =>
 if !decide (y = y1) then
 some (.inr (.inr false))
 else
 some (.inl (IntKind.wrap .i64 (st + 1)))
 else
 some (.inr (.inl ()))
noncomputable def tR08Below (p : List UInt8) (q : List UInt8) : Option Bool :=
 bd (tR08Names p) fun rA =>
 bd (tR08Names q) fun rA1 =>
 bd (
   if !decide (rA.2 = 0) then
   some true
   else
   if !decide (rA1.2 = 0) then
   some true
   else
   some (decide ((rA1.1.length : Int) ≤ (rA.1.length : Int))) : Option Bool) fun w =>
 if w then
 some false
 else
 bd (Loop (tR08BelowL1 rA rA1) 0) fun w1 =>
 match w1 with
 | .inl p3 =>
   some true
 | .inr p4 =>
   some p4
noncomputable def tR08AheadL1 (rA : (List (List UInt8)) × Int) (rA1 : (List (List UInt8)) × Int) (st : Int) : Option (Int ⊕ (Unit ⊕ Bool)) :=
 bd (
   if st < (rA.1.length : Int) then
   some (decide (st < (rA1.1.length : Int)))
   else
   some false : Option Bool) fun w2 =>
 if w2 then
 ix rA.1 st fun y =>
 ix rA1.1 st fun y1 =>
 if !decide (y = y1) then
 ix rA.1 st fun y2 =>
 ix rA1.1 st fun y3 =>
 some (.inr (.inr (Op.bytesLess y2 y3)))
 else
 some (.inl (IntKind.wrap .i64 (st + 1)))
 else
 some (.inr (.inl ()))
noncomputable def tR08Ahead (p : List UInt8) (q : List UInt8) : Option Bool :=
 bd (tR08Names p) fun rA =>
 bd (tR08Names q) fun rA1 =>
 bd (
   if !decide (rA.2 = 0) then
   some true
   else
   some (!decide (rA1.2 = 0)) : Option Bool) fun w =>
 if w then
 some false
 else
 bd (Loop (tR08AheadL1 rA rA1) 0) fun w1 =>
 match w1 with
 | .inl p3 =>
   some (decide ((rA.1.length : Int) < (rA1.1.length : Int)))
 | .inr p4 =>
   some p4
noncomputable def tL08PathTwo (p : List UInt8) (q : List UInt8) : Option Bool :=
 bd (
   if (1000 : Int) < (p.length : Int) then
   some true
   else
   some (decide ((1000 : Int) < (q.length : Int))) : Option Bool) fun w =>
 if w then
 bd (tL08Alive) fun rA =>
 some rA
 else
 bd (tPathJoin p q) fun rA1 =>
 bd (tR08Join p q) fun rA2 =>
 bd (
   bd (tL08Alive) fun rA3 =>
   if rA3 then
   if rA1.1 = rA2.1 then
   if rA1.2 = rA2.2 then
   bd (tPathBelow p q) fun rA4 =>
   bd (tR08Below p q) fun rA5 =>
   if rA4 = rA5 then
   bd (tPathAhead p q) fun rA6 =>
   bd (tR08Ahead p q) fun rA7 =>
   some (decide (rA6 = rA7))
   else
   some false
   else
   some false
   else
   some false
   else
   some false : Option Bool) fun w1 =>
 some w1
noncomputable def tSlicesEqualWatchWatchL1 (s1 : List WatchWatch) (s2 : List WatchWatch) (st : Int) : Option (Int ⊕ (Unit ⊕ Bool)) :=
 if st < (s1.length : Int) then
 ix s1 st fun y =>
 ix s2 st fun y1 =>
 if !((decide (y.Path = y1.Path)) && ((decide (y.Client = y1.Client)) && (decide (y.Kids = y1.Kids)))) then
 some (.inr (.inr false))
 else
 some (.inl (IntKind.wrap .i64 (st + 1)))
 else
 some (.inr (.inl ()))
noncomputable def tSlicesEqualWatchWatch (s1 : List WatchWatch) (s2 : List WatchWatch) : Option Bool :=
 if !decide ((s1.length : Int) = (s2.length : Int)) then
 some false
 else
 bd (Loop (tSlicesEqualWatchWatchL1 s1 s2) 0) fun w =>
 match w with
 | .inl p1 =>
   some true
 | .inr p2 =>
   some p2
noncomputable def tWatchSame (a : WatchTable) (b : WatchTable) : Option Bool :=
 bd (tSlicesEqualWatchWatch a.L b.L) fun rA =>
 some rA
noncomputable def tL11WatchPieces (a : WatchTable) (a1 : List WatchChange) (a2 : List WatchChange) : Option Bool :=
 bd (
   bd (tL11Few a) fun rA =>
   if !rA then
   some true
   else
   bd (tL11Plain a) fun rA1 =>
   bd (tR11Right rA1) fun rA2 =>
   if !rA2 then
   some true
   else
   bd (tL11Short a1) fun rA3 =>
   if !rA3 then
   some true
   else
   bd (tL11Short a2) fun rA4 =>
   some (!rA4) : Option Bool) fun w =>
 if w then
 bd (tL11Alive) fun rA5 =>
 some rA5
 else
 bd (tWatchFire a a1) fun rA6 =>
 bd (tWatchFire rA6.1 a2) fun rA7 =>
 if (([] : List WatchChange).length + a1.length) * 24 ≤ 2 ^ 46 then
 if ((([] : List WatchChange) ++ a1).length + a2.length) * 24 ≤ 2 ^ 46 then
 bd (tWatchFire a ((([] : List WatchChange) ++ a1) ++ a2)) fun rA8 =>
 bd (
   bd (tL11Alive) fun rA9 =>
   if rA9 then
   bd (tWatchSame rA7.1 rA8.1) fun rA10 =>
   if rA10 then
   if (([] : List WatchEvent).length + rA6.2.length) * 56 ≤ 2 ^ 46 then
   if ((([] : List WatchEvent) ++ rA6.2).length + rA7.2.length) * 56 ≤ 2 ^ 46 then
   bd (tL11Events ((([] : List WatchEvent) ++ rA6.2) ++ rA7.2)) fun rA11 =>
   bd (tL11Events rA8.2) fun rA12 =>
   bd (tR11Events rA11 rA12) fun rA13 =>
   some rA13
   else none
   else none
   else
   some false
   else
   some false : Option Bool) fun w1 =>
 some w1
 else none
 else none
noncomputable def tL08PathJoins (a : List UInt8) (a1 : List UInt8) : Option Bool :=
 bd (
   if (1000 : Int) < (a.length : Int) then
   some true
   else
   some (decide ((1000 : Int) < (a1.length : Int))) : Option Bool) fun w =>
 if w then
 bd (tL08Alive) fun rA =>
 some rA
 else
 bd (tPathNames a) fun rA1 =>
 bd (tPathParent a) fun rA2 =>
 bd (
   bd (tPathRight a) fun rA3 =>
   if !(decide ((decide (rA1.2 = 0)) = rA3)) then
   some true
   else
   if rA2.2 = 0 then
   if !decide (rA1.2 = 0) then
   some true
   else
   some (decide ((rA1.1.length : Int) = 0))
   else
   some false : Option Bool) fun w1 =>
 if w1 then
 some false
 else
 bd (
   if rA2.2 = 0 then
   ix rA1.1 (IntKind.wrap .i64 ((rA1.1.length : Int) - 1)) fun y =>
   bd (tPathJoin rA2.1 y) fun rA4 =>
   bd (
     if !decide (rA4.2 = 0) then
     some true
     else
     if !decide (rA4.1 = a) then
     some true
     else
     bd (tPathBelow rA2.1 a) fun rA5 =>
     some (!rA5) : Option Bool) fun w3 =>
   if w3 then
   some (.inl false)
   else
   some (.inr ())
   else
   some (.inr ()) : Option (Bool ⊕ Unit)) fun w2 =>
 match w2 with
 | .inl p1 =>
   some p1
 | .inr p2 =>
   bd (tPathJoin a a1) fun rA6 =>
   if !decide (rA6.2 = 0) then
   bd (
     bd (tL08Alive) fun rA7 =>
     if rA7 then
     if rA6.1 = ([] : List UInt8) then
     some (decide (rA6.2 = 13))
     else
     some false
     else
     some false : Option Bool) fun w4 =>
   some w4
   else
   bd (tPathParent rA6.1) fun rA8 =>
   bd (
     bd (tL08Alive) fun rA9 =>
     if rA9 then
     if rA8.2 = 0 then
     if rA8.1 = a then
     bd (tPathBelow a rA6.1) fun rA10 =>
     if rA10 then
     bd (tPathRight rA6.1) fun rA11 =>
     if rA11 then
     bd (tPathIsName a1) fun rA12 =>
     some rA12
     else
     some false
     else
     some false
     else
     some false
     else
     some false
     else
     some false : Option Bool) fun w5 =>
   some w5
noncomputable def tL08PathMadeL1 (rA1 : (List (List UInt8)) × Int) (st : (List UInt8) × Int) : Option (((List UInt8) × Int) ⊕ ((List UInt8) ⊕ Bool)) :=
 if st.2 < (rA1.1.length : Int) then
 ix rA1.1 st.2 fun y =>
 bd (tPathJoin st.1 y) fun rA4 =>
 bd (
   if !decide (rA4.2 = 0) then
   some true
   else
   ix rA1.1 st.2 fun y1 =>
   bd (tPathIsName y1) fun rA5 =>
   if !rA5 then
   some true
   else
   bd (tPathBelow st.1 rA4.1) fun rA6 =>
   some (!rA6) : Option Bool) fun w2 =>
 if w2 then
 some (.inr (.inr false))
 else
 some (.inl (rA4.1, IntKind.wrap .i64 (st.2 + 1)))
 else
 some (.inr (.inl st.1))
noncomputable def tL08PathMade (a : List UInt8) : Option Bool :=
 if (1000 : Int) < (a.length : Int) then
 bd (tL08Alive) fun rA =>
 some rA
 else
 bd (tPathNames a) fun rA1 =>
 if !decide (rA1.2 = 0) then
 bd (
   bd (tL08Alive) fun rA2 =>
   if rA2 then
   if (rA1.1.length : Int) = 0 then
   bd (tPathRight a) fun rA3 =>
   some (!rA3)
   else
   some false
   else
   some false : Option Bool) fun w =>
 some w
 else
 bd (Loop (tL08PathMadeL1 rA1) (([47] : List UInt8), 0)) fun w1 =>
 match w1 with
 | .inl p1 =>
   bd (
     bd (tL08Alive) fun rA7 =>
     if rA7 then
     if p1 = a then
     some (decide ((rA1.1.length : Int) ≤ 8))
     else
     some false
     else
     some false : Option Bool) fun w3 =>
   some w3
 | .inr p2 =>
   some p2
noncomputable def tWatchRightL1 (t : WatchTable) (st : (List MV) × Int) : Option (((List MV) × Int) ⊕ (Unit ⊕ Bool)) :=
 if st.2 < (t.L.length : Int) then
 ix t.L st.2 fun y =>
 bd (
   bd (tPathRight y.Path) fun rA =>
   if !rA then
   some true
   else
   if y.Client < 0 then
   some true
   else
   some (mgetB st.1 ([.s y.Path, .i .i64 y.Client, .b y.Kids] : List MV)) : Option Bool) fun w1 =>
 if w1 then
 some (.inr (.inr false))
 else
 some (.inl (mset (ment st.1 ([.s y.Path, .i .i64 y.Client, .b y.Kids] : List MV) (.b false)) (midx st.1 ([.s y.Path, .i .i64 y.Client, .b y.Kids] : List MV)) (.b true), IntKind.wrap .i64 (st.2 + 1)))
 else
 some (.inr (.inl ()))
noncomputable def tWatchRight (t : WatchTable) : Option Bool :=
 bd (Loop (tWatchRightL1 t) (([] : List MV), 0)) fun w =>
 match w with
 | .inl p1 =>
   some (decide ((t.L.length : Int) ≤ 200))
 | .inr p2 =>
   some p2
noncomputable def tL11WatchMayL1 (a : WatchTable) (a2 : WatchChange) (st : Int) : Option (Int ⊕ (Unit ⊕ Bool)) :=
 if st < (a.L.length : Int) then
 ix a.L st fun y =>
 ix a.L st fun y1 =>
 bd (tWatchTouches a2 y) fun rA3 =>
 bd (tL11One y1) fun rA4 =>
 bd (tR11Touches (⟨a2.Kind, a2.Path⟩ : R11Change) rA4) fun rA5 =>
 if !(decide (rA3 = rA5)) then
 some (.inr (.inr false))
 else
 some (.inl (IntKind.wrap .i64 (st + 1)))
 else
 some (.inr (.inl ()))
noncomputable def tL11WatchMay (a : WatchTable) (a1 : WatchTable) (a2 : WatchChange) : Option Bool :=
 bd (
   bd (tL11Few a) fun rA =>
   if !rA then
   some true
   else
   bd (tL11Few a1) fun rA1 =>
   if !rA1 then
   some true
   else
   some (decide ((300 : Int) < (a2.Path.length : Int))) : Option Bool) fun w =>
 if w then
 bd (tL11Alive) fun rA2 =>
 some rA2
 else
 bd (Loop (tL11WatchMayL1 a a2) 0) fun w1 =>
 match w1 with
 | .inl p1 =>
   bd (
     bd (tL11Alive) fun rA6 =>
     if rA6 then
     bd (tWatchRight a) fun rA7 =>
     bd (tL11Plain a) fun rA8 =>
     bd (tR11Right rA8) fun rA9 =>
     if rA7 = rA9 then
     bd (tWatchSame a a1) fun rA10 =>
     bd (tL11Plain a) fun rA11 =>
     bd (tL11Plain a1) fun rA12 =>
     bd (tR11Same rA11 rA12) fun rA13 =>
     some (decide (rA10 = rA13))
     else
     some false
     else
     some false : Option Bool) fun w2 =>
   some w2
 | .inr p2 =>
   some p2
end Dn.S
