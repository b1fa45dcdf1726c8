import Derived.Test.YteakdlhhamgfbaaDoorDnC
/-
  The functions, on typed values. Conditions: none.
-/
open Go Dn
set_option linter.unusedVariables false
set_option linter.unusedSimpArgs false
set_option maxRecDepth 100000
namespace Dn.S
noncomputable def tStringsliteHasPrefix (sA : List UInt8) (prefixA : List UInt8) : Option Bool :=
 bd (
   if (prefixA.length : Int) ≤ (sA.length : Int) then
   if (0 : Int) ≤ 0 ∧ (0 : Int) ≤ (prefixA.length : Int) ∧ (prefixA.length : Int) ≤ (sA.length : Int) then
   some (decide ((List.drop (Int.toNat 0) (List.take (Int.toNat (prefixA.length : Int)) sA)) = prefixA))
   else none
   else
   some false : Option Bool) fun w =>
 some w
noncomputable def tStringsliteCutPrefix (sA : List UInt8) (prefixA : List UInt8) : Option ((List UInt8) × Bool) :=
 bd (tStringsliteHasPrefix sA prefixA) fun rA =>
 if !rA then
 some (sA, false)
 else
 if (0 : Int) ≤ (prefixA.length : Int) ∧ (prefixA.length : Int) ≤ (sA.length : Int) ∧ (sA.length : Int) ≤ (sA.length : Int) then
 some (List.drop (Int.toNat (prefixA.length : Int)) (List.take (Int.toNat (sA.length : Int)) sA), true)
 else none
noncomputable def tStringsCutPrefix (sA : List UInt8) (prefixA : List UInt8) : Option ((List UInt8) × Bool) :=
 bd (tStringsliteCutPrefix sA prefixA) fun rA =>
 some (rA.1, rA.2)
noncomputable def tPathIsNameF1 (c : Int) : Option Bool :=
 bd (tHasRune ([97, 98, 99, 100, 101, 102, 103, 104, 105, 106, 107, 108, 109, 110, 111, 112, 113, 114, 115, 116, 117, 118, 119, 120, 121, 122, 48, 49, 50, 51, 52, 53, 54, 55, 56, 57, 45, 95] : List UInt8) c) fun rA =>
 some (!rA)
noncomputable def tStringsIndexInL1 (f : Int → Option Bool) (truth : Bool) (st : (List MV)) : Option ((List MV) ⊕ (Unit ⊕ Int)) :=
 if itOk st then
 bd (f (itRune st)) fun rA =>
 if rA = truth then
 some (.inr (.inr (itPos st)))
 else
 some (.inl (itStep st))
 else
 some (.inr (.inl ()))
noncomputable def tStringsIndexIn (sA : List UInt8) (f : Int → Option Bool) (truth : Bool) : Option Int :=
 bd (Loop (tStringsIndexInL1 f truth) ([.s sA, .i .i64 0] : List MV)) fun w =>
 match w with
 | .inl p1 =>
   some (-1)
 | .inr p2 =>
   some p2
noncomputable def tStringsIndexFunc (sA : List UInt8) (f : Int → Option Bool) : Option Int :=
 bd (tStringsIndexIn sA f true) fun rA =>
 some rA
noncomputable def tStringsContainsFunc (sA : List UInt8) (f : Int → Option Bool) : Option Bool :=
 bd (tStringsIndexFunc sA f) fun rA =>
 some (decide ((0 : Int) ≤ rA))
noncomputable def tPathIsName (sA : List UInt8) : Option Bool :=
 bd (
   if !decide (sA = ([] : List UInt8)) then
   if (sA.length : Int) ≤ 30 then
   bd (tTrim sA ([97, 98, 99, 100, 101, 102, 103, 104, 105, 106, 107, 108, 109, 110, 111, 112, 113, 114, 115, 116, 117, 118, 119, 120, 121, 122, 48, 49, 50, 51, 52, 53, 54, 55, 56, 57, 45, 95] : List UInt8)) fun rA =>
   if rA = ([] : List UInt8) then
   bd (tStringsContainsFunc sA tPathIsNameF1) fun rA1 =>
   some (!rA1)
   else
   some false
   else
   some false
   else
   some false : Option Bool) fun w =>
 some w
noncomputable def tPathInnerF1 (sA : List UInt8) : Option Bool :=
 bd (tPathIsName sA) fun rA =>
 some (!rA)
noncomputable def tSlicesIndexFuncStringL1 (sA : List (List UInt8)) (f : (List UInt8) → Option Bool) (st : Int) : Option (Int ⊕ (Unit ⊕ Int)) :=
 if st < (sA.length : Int) then
 ix sA st fun y =>
 bd (f y) fun rA =>
 if rA then
 some (.inr (.inr st))
 else
 some (.inl (IntKind.wrap .i64 (st + 1)))
 else
 some (.inr (.inl ()))
noncomputable def tSlicesIndexFuncString (sA : List (List UInt8)) (f : (List UInt8) → Option Bool) : Option Int :=
 bd (Loop (tSlicesIndexFuncStringL1 sA f) 0) fun w =>
 match w with
 | .inl p1 =>
   some (-1)
 | .inr p2 =>
   some p2
noncomputable def tSlicesContainsFuncString (sA : List (List UInt8)) (f : (List UInt8) → Option Bool) : Option Bool :=
 bd (tSlicesIndexFuncString sA f) fun rA =>
 some (decide ((0 : Int) ≤ rA))
noncomputable def tPathInner (p : List UInt8) : Option ((List (List UInt8)) × Bool) :=
 bd (tStringsCutPrefix p ([47] : List UInt8)) fun rA =>
 bd (
   if !rA.2 then
   some true
   else
   some (decide ((100 : Int) < (p.length : Int))) : Option Bool) fun w =>
 if w then
 some (([] : List (List UInt8)), false)
 else
 if rA.1 = ([] : List UInt8) then
 some (([] : List (List UInt8)), true)
 else
 bd (tSplit rA.1 ([47] : List UInt8)) fun rA1 =>
 bd (
   if (rA1.length : Int) ≤ 8 then
   bd (tSlicesContainsFuncString rA1 tPathInnerF1) fun rA2 =>
   some (rA1, !rA2, rA1)
   else
   some (rA1, false, rA1) : Option ((List (List UInt8)) × Bool × (List (List UInt8)))) fun w1 =>
 some (w1.2.2, w1.2.1)
noncomputable def tPathRight (p : List UInt8) : Option Bool :=
 bd (tPathInner p) fun rA =>
 some rA.2
noncomputable def tBytealgLastIndexByteStringL1 (sA : List UInt8) (c : Int) (st : Int) : Option (Int ⊕ (Unit ⊕ Int)) :=
 if (0 : Int) ≤ st then
 if (0 : Int) ≤ st ∧ st < (sA.length : Int) then
 if ((sA.getD (Int.toNat st) 0).toNat : Int) = c then
 some (.inr (.inr st))
 else
 some (.inl (IntKind.wrap .i64 (st - 1)))
 else none
 else
 some (.inr (.inl ()))
noncomputable def tBytealgLastIndexByteString (sA : List UInt8) (c : Int) : Option Int :=
 bd (Loop (tBytealgLastIndexByteStringL1 sA c) (IntKind.wrap .i64 ((sA.length : Int) - 1))) fun w =>
 match w with
 | .inl p1 =>
   some (-1)
 | .inr p2 =>
   some p2
noncomputable def tBytealgHashStrRevStringL1 (sep : List UInt8) (st : Int × Int) : Option ((Int × Int) ⊕ Int) :=
 if (0 : Int) ≤ st.2 then
 if (0 : Int) ≤ st.2 ∧ st.2 < (sep.length : Int) then
 some (.inl (IntKind.wrap .u32 ((IntKind.wrap .u32 (st.1 * 16777619)) + (IntKind.wrap .u32 ((sep.getD (Int.toNat st.2) 0).toNat : Int))), IntKind.wrap .i64 (st.2 - 1)))
 else none
 else
 some (.inr st.1)
noncomputable def tBytealgHashStrRevStringL2 (st1 : Int × Int × Int) : Option ((Int × Int × Int) ⊕ Int) :=
 if (0 : Int) < st1.2.2 then
 none
 else
 some (.inr st1.1)
noncomputable def tBytealgHashStrRevString (sep : List UInt8) : Option (Int × Int) :=
 bd (Loop (tBytealgHashStrRevStringL1 sep) (0, IntKind.wrap .i64 ((sep.length : Int) - 1))) fun w =>
 bd (Loop tBytealgHashStrRevStringL2 (1, 16777619, (sep.length : Int))) fun w1 =>
 some (w, w1)
noncomputable def tBytealgLastIndexRabinKarpStringL1 (a : List UInt8) (a1 : List UInt8) (st : Int × Int) : Option ((Int × Int) ⊕ Int) :=
 if (IntKind.wrap .i64 ((a.length : Int) - (a1.length : Int))) ≤ st.2 then
 if (0 : Int) ≤ st.2 ∧ st.2 < (a.length : Int) then
 some (.inl (IntKind.wrap .u32 ((IntKind.wrap .u32 (st.1 * 16777619)) + (IntKind.wrap .u32 ((a.getD (Int.toNat st.2) 0).toNat : Int))), IntKind.wrap .i64 (st.2 - 1)))
 else none
 else
 some (.inr st.1)
noncomputable def tBytealgLastIndexRabinKarpStringL2 (a : List UInt8) (a1 : List UInt8) (rA : Int × Int) (st1 : Int × Int) : Option ((Int × Int) ⊕ (Unit ⊕ Int)) :=
 if (0 : Int) ≤ st1.2 then
 if (0 : Int) ≤ st1.2 ∧ st1.2 < (a.length : Int) then
 if (0 : Int) ≤ (IntKind.wrap .i64 (st1.2 + (a1.length : Int))) ∧ (IntKind.wrap .i64 (st1.2 + (a1.length : Int))) < (a.length : Int) then
 bd (
   if (IntKind.wrap .u32 ((IntKind.wrap .u32 ((IntKind.wrap .u32 (st1.1 * 16777619)) + (IntKind.wrap .u32 ((a.getD (Int.toNat st1.2) 0).toNat : Int)))) - (IntKind.wrap .u32 (rA.2 * (IntKind.wrap .u32 ((a.getD (Int.toNat (IntKind.wrap .i64 (st1.2 + (a1.length : Int)))) 0).toNat : Int)))))) = rA.1 then
   if (0 : Int) ≤ st1.2 ∧ st1.2 ≤ (IntKind.wrap .i64 (st1.2 + (a1.length : Int))) ∧ (IntKind.wrap .i64 (st1.2 + (a1.length : Int))) ≤ (a.length : Int) then
   some (decide ((List.drop (Int.toNat st1.2) (List.take (Int.toNat (IntKind.wrap .i64 (st1.2 + (a1.length : Int)))) a)) = a1))
   else none
   else
   some false : Option Bool) fun w3 =>
 if w3 then
 some (.inr (.inr st1.2))
 else
 some (.inl (IntKind.wrap .u32 ((IntKind.wrap .u32 ((IntKind.wrap .u32 (st1.1 * 16777619)) + (IntKind.wrap .u32 ((a.getD (Int.toNat st1.2) 0).toNat : Int)))) - (IntKind.wrap .u32 (rA.2 * (IntKind.wrap .u32 ((a.getD (Int.toNat (IntKind.wrap .i64 (st1.2 + (a1.length : Int)))) 0).toNat : Int))))), IntKind.wrap .i64 (st1.2 - 1)))
 else none
 else none
 else
 some (.inr (.inl ()))
noncomputable def tBytealgLastIndexRabinKarpString (a : List UInt8) (a1 : List UInt8) : Option Int :=
 bd (tBytealgHashStrRevString a1) fun rA =>
 bd (Loop (tBytealgLastIndexRabinKarpStringL1 a a1) (0, IntKind.wrap .i64 ((a.length : Int) - 1))) fun w =>
 bd (
   if w = rA.1 then
   if (0 : Int) ≤ (IntKind.wrap .i64 ((a.length : Int) - (a1.length : Int))) ∧ (IntKind.wrap .i64 ((a.length : Int) - (a1.length : Int))) ≤ (a.length : Int) ∧ (a.length : Int) ≤ (a.length : Int) then
   some (decide ((List.drop (Int.toNat (IntKind.wrap .i64 ((a.length : Int) - (a1.length : Int)))) (List.take (Int.toNat (a.length : Int)) a)) = a1))
   else none
   else
   some false : Option Bool) fun w1 =>
 if w1 then
 some (IntKind.wrap .i64 ((a.length : Int) - (a1.length : Int)))
 else
 bd (Loop (tBytealgLastIndexRabinKarpStringL2 a a1 rA) (w, IntKind.wrap .i64 ((IntKind.wrap .i64 ((a.length : Int) - (a1.length : Int))) - 1))) fun w2 =>
 match w2 with
 | .inl p2 =>
   some (-1)
 | .inr p3 =>
   some p3
noncomputable def tStringsLastIndex (sA : List UInt8) (substr : List UInt8) : Option Int :=
 if (substr.length : Int) = 0 then
 some (sA.length : Int)
 else
 if (substr.length : Int) = 1 then
 if (0 : Int) ≤ 0 ∧ (0 : Int) < (substr.length : Int) then
 bd (tBytealgLastIndexByteString sA ((substr.getD (Int.toNat 0) 0).toNat : Int)) fun rA =>
 some rA
 else none
 else
 if (substr.length : Int) = (sA.length : Int) then
 if substr = sA then
 some 0
 else
 some (-1)
 else
 if (sA.length : Int) < (substr.length : Int) then
 some (-1)
 else
 bd (tBytealgLastIndexRabinKarpString sA substr) fun rA1 =>
 some rA1
noncomputable def tPathParent (p : List UInt8) : Option ((List UInt8) × Int) :=
 bd (tPathRight p) fun rA =>
 if !rA then
 some (([] : List UInt8), 13)
 else
 if p = ([47] : List UInt8) then
 some (([] : List UInt8), 6)
 else
 bd (tStringsLastIndex p ([47] : List UInt8)) fun rA1 =>
 if (0 : Int) ≤ 0 ∧ (0 : Int) ≤ (imax 1 rA1) ∧ (imax 1 rA1) ≤ (p.length : Int) then
 some (List.drop (Int.toNat 0) (List.take (Int.toNat (imax 1 rA1)) p), 0)
 else none
noncomputable def tCmpIsNaNString (x : List UInt8) : Option Bool :=
 some (!decide (x = x))
noncomputable def tCmpCompareString (x : List UInt8) (y : List UInt8) : Option Int :=
 bd (tCmpIsNaNString x) fun rA =>
 bd (tCmpIsNaNString y) fun rA1 =>
 if rA then
 if rA1 then
 some 0
 else
 some (-1)
 else
 if rA1 then
 some 1
 else
 if Op.bytesLess x y then
 some (-1)
 else
 if !(Op.bytesLess x y || decide (x = y)) then
 some 1
 else
 some 0
noncomputable def tSlicesCompareStringL1 (s1 : List (List UInt8)) (s2 : List (List UInt8)) (st : Int) : Option (Int ⊕ (Unit ⊕ Int)) :=
 if st < (s1.length : Int) then
 ix s1 st fun y =>
 if (s2.length : Int) ≤ st then
 some (.inr (.inr 1))
 else
 ix s2 st fun y1 =>
 bd (tCmpCompareString y y1) fun rA =>
 if !decide (rA = 0) then
 some (.inr (.inr rA))
 else
 some (.inl (IntKind.wrap .i64 (st + 1)))
 else
 some (.inr (.inl ()))
noncomputable def tSlicesCompareString (s1 : List (List UInt8)) (s2 : List (List UInt8)) : Option Int :=
 bd (Loop (tSlicesCompareStringL1 s1 s2) 0) fun w =>
 match w with
 | .inl p1 =>
   if (s1.length : Int) < (s2.length : Int) then
   some (-1)
   else
   some 0
 | .inr p2 =>
   some p2
noncomputable def tPathAhead (p : List UInt8) (q : List UInt8) : Option Bool :=
 bd (tPathInner p) fun rA =>
 bd (tPathInner q) fun rA1 =>
 bd (
   if rA.2 then
   if rA1.2 then
   bd (tSlicesCompareString rA.1 rA1.1) fun rA2 =>
   some (decide (rA2 < 0))
   else
   some false
   else
   some false : Option Bool) fun w =>
 some w
noncomputable def tL08Alive : Option Bool :=
 bd (tPathParent ([47, 97, 47, 98] : List UInt8)) fun rA =>
 bd (tPathParent ([47] : List UInt8)) fun rA1 =>
 bd (
   if rA.1 = ([47, 97] : List UInt8) then
   if rA.2 = 0 then
   if rA1.2 = 6 then
   bd (tPathRight ([47] : List UInt8)) fun rA2 =>
   if rA2 then
   bd (tPathRight ([97] : List UInt8)) fun rA3 =>
   if !rA3 then
   bd (tPathAhead ([47, 97, 47, 98] : List UInt8) ([47, 97, 45, 98] : List UInt8)) fun rA4 =>
   some rA4
   else
   some false
   else
   some false
   else
   some false
   else
   some false
   else
   some false : Option Bool) fun w =>
 some w
noncomputable def tPathNames (p : List UInt8) : Option ((List (List UInt8)) × Int) :=
 bd (tPathInner p) fun rA =>
 if !rA.2 then
 some (([] : List (List UInt8)), 13)
 else
 some (rA.1, 0)
noncomputable def tR08IsNameL1 (sA : List UInt8) (st : Int) : Option (Int ⊕ (Unit ⊕ Bool)) :=
 if st < (sA.length : Int) then
 if (0 : Int) ≤ st ∧ st < (sA.length : Int) then
 bd (
   if (97 : Int) ≤ ((sA.getD (Int.toNat st) 0).toNat : Int) then
   if ((sA.getD (Int.toNat st) 0).toNat : Int) ≤ 122 then
   some true
   else
   if (48 : Int) ≤ ((sA.getD (Int.toNat st) 0).toNat : Int) then
   if ((sA.getD (Int.toNat st) 0).toNat : Int) ≤ 57 then
   some true
   else
   if ((sA.getD (Int.toNat st) 0).toNat : Int) = 45 then
   some true
   else
   some (decide (((sA.getD (Int.toNat st) 0).toNat : Int) = 95))
   else
   if ((sA.getD (Int.toNat st) 0).toNat : Int) = 45 then
   some true
   else
   some (decide (((sA.getD (Int.toNat st) 0).toNat : Int) = 95))
   else
   if (48 : Int) ≤ ((sA.getD (Int.toNat st) 0).toNat : Int) then
   if ((sA.getD (Int.toNat st) 0).toNat : Int) ≤ 57 then
   some true
   else
   if ((sA.getD (Int.toNat st) 0).toNat : Int) = 45 then
   some true
   else
   some (decide (((sA.getD (Int.toNat st) 0).toNat : Int) = 95))
   else
   if ((sA.getD (Int.toNat st) 0).toNat : Int) = 45 then
   some true
   else
   some (decide (((sA.getD (Int.toNat st) 0).toNat : Int) = 95)) : Option Bool) fun w1 =>
 if !w1 then
 some (.inr (.inr false))
 else
 some (.inl (IntKind.wrap .i64 (st + 1)))
 else none
 else
 some (.inr (.inl ()))
noncomputable def tR08IsName (sA : List UInt8) : Option Bool :=
 bd (Loop (tR08IsNameL1 sA) 0) fun w =>
 match w with
 | .inl p1 =>
   bd (
     if (1 : Int) ≤ (sA.length : Int) then
     some (decide ((sA.length : Int) ≤ 30))
     else
     some false : Option Bool) fun w2 =>
   some w2
 | .inr p2 =>
   some p2
noncomputable def tR08CutL1 (p : List UInt8) (st : (List (List UInt8)) × (List UInt8) × Int) : Option (((List (List UInt8)) × (List UInt8) × Int) ⊕ ((List (List UInt8)) × (List UInt8))) :=
 if st.2.2 < (p.length : Int) then
 if (0 : Int) ≤ st.2.2 ∧ st.2.2 < (p.length : Int) then
 bd (
   if ((p.getD (Int.toNat st.2.2) 0).toNat : Int) = 47 then
   if (st.1.length + ([st.2.1] : List (List UInt8)).length) * 16 ≤ 2 ^ 46 then
   some (st.1 ++ ([st.2.1] : List (List UInt8)), ([] : List UInt8))
   else none
   else
   if (0 : Int) ≤ st.2.2 ∧ st.2.2 < (p.length : Int) then
   bysT ([((p.getD (Int.toNat st.2.2) 0).toNat : Int)] : List Int) fun bs =>
   if st.2.1.length + bs.length ≤ 2 ^ 46 then
   some (st.1, st.2.1 ++ bs)
   else none
   else none : Option ((List (List UInt8)) × (List UInt8))) fun w2 =>
 some (.inl (w2.1, w2.2, IntKind.wrap .i64 (st.2.2 + 1)))
 else none
 else
 some (.inr (st.1, st.2.1))
noncomputable def tR08Cut (p : List UInt8) : Option ((List (List UInt8)) × Bool) :=
 bd (
   if (p.length : Int) = 0 then
   some true
   else
   if (0 : Int) ≤ 0 ∧ (0 : Int) < (p.length : Int) then
   some (!decide (((p.getD (Int.toNat 0) 0).toNat : Int) = 47))
   else none : Option Bool) fun w =>
 if w then
 some (([] : List (List UInt8)), false)
 else
 if p = ([47] : List UInt8) then
 some (([] : List (List UInt8)), true)
 else
 bd (Loop (tR08CutL1 p) (([] : List (List UInt8)), ([] : List UInt8), 1)) fun w1 =>
 if (w1.1.length + ([w1.2] : List (List UInt8)).length) * 16 ≤ 2 ^ 46 then
 some (w1.1 ++ ([w1.2] : List (List UInt8)), true)
 else none
noncomputable def tR08RightL1 (rA : (List (List UInt8)) × Bool) (st : Int) : Option (Int ⊕ (Unit ⊕ Bool)) :=
 if st < (rA.1.length : Int) then
 ix rA.1 st fun y =>
 bd (tR08IsName y) fun rA1 =>
 if !rA1 then
 some (.inr (.inr false))
 else
 some (.inl (IntKind.wrap .i64 (st + 1)))
 else
 some (.inr (.inl ()))
noncomputable def tR08Right (p : List UInt8) : Option Bool :=
 if (100 : Int) < (p.length : Int) then
 some false
 else
 bd (tR08Cut p) fun rA =>
 bd (Loop (tR08RightL1 rA) 0) fun w =>
 match w with
 | .inl p3 =>
   bd (
     if rA.2 then
     some (decide ((rA.1.length : Int) ≤ 8))
     else
     some false : Option Bool) fun w1 =>
   some w1
 | .inr p4 =>
   some p4
noncomputable def tR08Names (p : List UInt8) : Option ((List (List UInt8)) × Int) :=
 bd (tR08Right p) fun rA =>
 if !rA then
 some (([] : List (List UInt8)), 13)
 else
 bd (tR08Cut p) fun rA1 =>
 some (rA1.1, 0)
noncomputable def tR08MadeL1 (lA : List (List UInt8)) (st : (List UInt8) × Int) : Option (((List UInt8) × Int) ⊕ (List UInt8)) :=
 if st.2 < (lA.length : Int) then
 if st.1.length + ([47] : List UInt8).length ≤ 2 ^ 46 then
 ix lA st.2 fun y =>
 if (st.1 ++ ([47] : List UInt8)).length + y.length ≤ 2 ^ 46 then
 some (.inl ((st.1 ++ ([47] : List UInt8)) ++ y, IntKind.wrap .i64 (st.2 + 1)))
 else none
 else none
 else
 some (.inr st.1)
noncomputable def tR08Made (lA : List (List UInt8)) : Option (List UInt8) :=
 bd (Loop (tR08MadeL1 lA) (([] : List UInt8), 0)) fun w =>
 if w = ([] : List UInt8) then
 some ([47] : List UInt8)
 else
 some w
noncomputable def tR08Parent (p : List UInt8) : Option ((List UInt8) × Int) :=
 bd (tR08Names p) fun rA =>
 if !decide (rA.2 = 0) then
 some (([] : List UInt8), rA.2)
 else
 if (rA.1.length : Int) = 0 then
 some (([] : List UInt8), 6)
 else
 if (0 : Int) ≤ 0 ∧ (0 : Int) ≤ (IntKind.wrap .i64 ((rA.1.length : Int) - 1)) ∧ (IntKind.wrap .i64 ((rA.1.length : Int) - 1)) ≤ (rA.1.length : Int) then
 bd (tR08Made (List.drop (Int.toNat 0) (List.take (Int.toNat (IntKind.wrap .i64 ((rA.1.length : Int) - 1))) rA.1))) fun rA1 =>
 some (rA1, 0)
 else none
noncomputable def tR01StringsL1 (a : List (List UInt8)) (b : List (List UInt8)) (st : Int) : Option (Int ⊕ (Unit ⊕ Bool)) :=
 if st < (a.length : Int) then
 ix a st fun y =>
 ix b st fun y1 =>
 if !decide (y = y1) then
 some (.inr (.inr false))
 else
 some (.inl (IntKind.wrap .i64 (st + 1)))
 else
 some (.inr (.inl ()))
noncomputable def tR01Strings (a : List (List UInt8)) (b : List (List UInt8)) : Option Bool :=
 if !decide ((a.length : Int) = (b.length : Int)) then
 some false
 else
 bd (Loop (tR01StringsL1 a b) 0) fun w =>
 match w with
 | .inl p1 =>
   some true
 | .inr p2 =>
   some p2
noncomputable def tL08PathTells (a : List UInt8) : Option Bool :=
 if (1000 : Int) < (a.length : Int) then
 bd (tL08Alive) fun rA =>
 some rA
 else
 bd (tPathNames a) fun rA1 =>
 bd (tR08Names a) fun rA2 =>
 bd (tPathParent a) fun rA3 =>
 bd (tR08Parent a) fun rA4 =>
 bd (
   bd (tL08Alive) fun rA5 =>
   if rA5 then
   bd (tPathIsName a) fun rA6 =>
   bd (tR08IsName a) fun rA7 =>
   if rA6 = rA7 then
   bd (tPathRight a) fun rA8 =>
   bd (tR08Right a) fun rA9 =>
   if rA8 = rA9 then
   bd (tR01Strings rA1.1 rA2.1) fun rA10 =>
   if rA10 then
   if rA1.2 = rA2.2 then
   if rA3.1 = rA4.1 then
   some (decide (rA3.2 = rA4.2))
   else
   some false
   else
   some false
   else
   some false
   else
   some false
   else
   some false
   else
   some false : Option Bool) fun w =>
 some w
noncomputable def tSlicesEqualStringL1 (s1 : List (List UInt8)) (s2 : List (List UInt8)) (st : Int) : Option (Int ⊕ (Unit ⊕ Bool)) :=
 if st < (s1.length : Int) then
 ix s1 st fun y =>
 ix s2 st fun y1 =>
 if !decide (y = y1) then
 some (.inr (.inr false))
 else
 some (.inl (IntKind.wrap .i64 (st + 1)))
 else
 some (.inr (.inl ()))
noncomputable def tSlicesEqualString (s1 : List (List UInt8)) (s2 : List (List UInt8)) : Option Bool :=
 if !decide ((s1.length : Int) = (s2.length : Int)) then
 some false
 else
 bd (Loop (tSlicesEqualStringL1 s1 s2) 0) fun w =>
 match w with
 | .inl p1 =>
   some true
 | .inr p2 =>
   some p2
noncomputable def tPathBelow (p : List UInt8) (q : List UInt8) : Option Bool :=
 bd (tPathInner p) fun rA =>
 bd (tPathInner q) fun rA1 =>
 bd (
   if rA.2 then
   if rA1.2 then
   if (rA.1.length : Int) < (rA1.1.length : Int) then
   if (0 : Int) ≤ 0 ∧ (0 : Int) ≤ (rA.1.length : Int) ∧ (rA.1.length : Int) ≤ (rA1.1.length : Int) then
   bd (tSlicesEqualString rA.1 (List.drop (Int.toNat 0) (List.take (Int.toNat (rA.1.length : Int)) rA1.1))) fun rA2 =>
   some rA2
   else none
   else
   some false
   else
   some false
   else
   some false : Option Bool) fun w =>
 some w
noncomputable def tL08PathOrder (a : List UInt8) (a1 : List UInt8) (a2 : List UInt8) : Option Bool :=
 bd (
   if (1000 : Int) < (a.length : Int) then
   some true
   else
   if (1000 : Int) < (a1.length : Int) then
   some true
   else
   if (1000 : Int) < (a2.length : Int) then
   some true
   else
   bd (tPathRight a) fun rA =>
   if !rA then
   some true
   else
   bd (tPathRight a1) fun rA1 =>
   if !rA1 then
   some true
   else
   bd (tPathRight a2) fun rA2 =>
   some (!rA2) : Option Bool) fun w =>
 if w then
 bd (tL08Alive) fun rA3 =>
 some rA3
 else
 bd (
   bd (tPathAhead a a) fun rA4 =>
   if rA4 then
   some true
   else
   if !decide (a = a1) then
   bd (tPathAhead a a1) fun rA5 =>
   bd (tPathAhead a1 a) fun rA6 =>
   if rA5 = rA6 then
   some true
   else
   bd (tPathAhead a a1) fun rA7 =>
   if rA7 then
   bd (tPathAhead a1 a2) fun rA8 =>
   if rA8 then
   bd (tPathAhead a a2) fun rA9 =>
   some (!rA9)
   else
   some false
   else
   some false
   else
   bd (tPathAhead a a1) fun rA10 =>
   if rA10 then
   bd (tPathAhead a1 a2) fun rA11 =>
   if rA11 then
   bd (tPathAhead a a2) fun rA12 =>
   some (!rA12)
   else
   some false
   else
   some false : Option Bool) fun w1 =>
 if w1 then
 some false
 else
 bd (
   bd (tPathAhead a a1) fun rA13 =>
   if rA13 then
   bd (tPathAhead a1 a2) fun rA14 =>
   if rA14 then
   bd (tPathBelow a a2) fun rA15 =>
   some rA15
   else
   some false
   else
   some false : Option Bool) fun w2 =>
 bd (
   bd (tL08Alive) fun rA16 =>
   if rA16 then
   bd (tPathBelow a a1) fun rA17 =>
   if !rA17 then
   if !w2 then
   some true
   else
   bd (tPathBelow a a1) fun rA18 =>
   some rA18
   else
   bd (tPathAhead a a1) fun rA19 =>
   if rA19 then
   if !w2 then
   some true
   else
   bd (tPathBelow a a1) fun rA20 =>
   some rA20
   else
   some false
   else
   some false : Option Bool) fun w3 =>
 some w3
noncomputable def tStringsliteHasSuffix (sA : List UInt8) (suffix : List UInt8) : Option Bool :=
 bd (
   if (suffix.length : Int) ≤ (sA.length : Int) then
   if (0 : Int) ≤ (IntKind.wrap .i64 ((sA.length : Int) - (suffix.length : Int))) ∧ (IntKind.wrap .i64 ((sA.length : Int) - (suffix.length : Int))) ≤ (sA.length : Int) ∧ (sA.length : Int) ≤ (sA.length : Int) then
   some (decide ((List.drop (Int.toNat (IntKind.wrap .i64 ((sA.length : Int) - (suffix.length : Int)))) (List.take (Int.toNat (sA.length : Int)) sA)) = suffix))
   else none
   else
   some false : Option Bool) fun w =>
 some w
noncomputable def tStringsliteTrimSuffix (sA : List UInt8) (suffix : List UInt8) : Option (List UInt8) :=
 bd (tStringsliteHasSuffix sA suffix) fun rA =>
 if rA then
 if (0 : Int) ≤ 0 ∧ (0 : Int) ≤ (IntKind.wrap .i64 ((sA.length : Int) - (suffix.length : Int))) ∧ (IntKind.wrap .i64 ((sA.length : Int) - (suffix.length : Int))) ≤ (sA.length : Int) then
 some (List.drop (Int.toNat 0) (List.take (Int.toNat (IntKind.wrap .i64 ((sA.length : Int) - (suffix.length : Int)))) sA))
 else none
 else
 some sA
noncomputable def tStringsTrimSuffix (sA : List UInt8) (suffix : List UInt8) : Option (List UInt8) :=
 bd (tStringsliteTrimSuffix sA suffix) fun rA =>
 some rA
noncomputable def tPathJoin (p : List UInt8) (name : List UInt8) : Option ((List UInt8) × Int) :=
 bd (tStringsTrimSuffix p ([47] : List UInt8)) fun rA =>
 if rA.length + ([47] : List UInt8).length ≤ 2 ^ 46 then
 if (rA ++ ([47] : List UInt8)).length + name.length ≤ 2 ^ 46 then
 bd (
   bd (tPathRight p) fun rA1 =>
   if !rA1 then
   some true
   else
   bd (tPathIsName name) fun rA2 =>
   if !rA2 then
   some true
   else
   bd (tPathRight ((rA ++ ([47] : List UInt8)) ++ name)) fun rA3 =>
   some (!rA3) : Option Bool) fun w =>
 if w then
 some (([] : List UInt8), 13)
 else
 some ((rA ++ ([47] : List UInt8)) ++ name, 0)
 else none
 else none
noncomputable def tR08Join (p : List UInt8) (name : List UInt8) : Option ((List UInt8) × Int) :=
 bd (tR08Names p) fun rA =>
 bd (
   if !decide (rA.2 = 0) then
   some true
   else
   bd (tR08IsName name) fun rA1 =>
   some (!rA1) : Option Bool) fun w =>
 if w then
 some (([] : List UInt8), 13)
 else
 none
noncomputable def tR08BelowL1 (rA : (List (List UInt8)) × Int) (rA1 : (List (List UInt8)) × Int) (st : Int) : Option (Int ⊕ (Unit ⊕ Bool)) :=
 if st < (rA.1.length : Int) then
 ix rA.1 st fun y =>
 ix rA1.1 st fun y1 =>
 if !decide (y = y1) then
 some (.inr (.inr false))
 else
 some (.inl (IntKind.wrap .i64 (st + 1)))
 else
 some (.inr (.inl ()))
noncomputable def tR08Below (p : List UInt8) (q : List UInt8) : Option Bool :=
 bd (tR08Names p) fun rA =>
 bd (tR08Names q) fun rA1 =>
 bd (
   if !decide (rA.2 = 0) then
   some true
   else
   if !decide (rA1.2 = 0) then
   some true
   else
   some (decide ((rA1.1.length : Int) ≤ (rA.1.length : Int))) : Option Bool) fun w =>
 if w then
 some false
 else
 bd (Loop (tR08BelowL1 rA rA1) 0) fun w1 =>
 match w1 with
 | .inl p3 =>
   some true
 | .inr p4 =>
   some p4
noncomputable def tR08AheadL1 (rA : (List (List UInt8)) × Int) (rA1 : (List (List UInt8)) × Int) (st : Int) : Option (Int ⊕ (Unit ⊕ Bool)) :=
 bd (
   if st < (rA.1.length : Int) then
   some (decide (st < (rA1.1.length : Int)))
   else
   some false : Option Bool) fun w2 =>
 if w2 then
 ix rA.1 st fun y =>
 ix rA1.1 st fun y1 =>
 if !decide (y = y1) then
 ix rA.1 st fun y2 =>
 ix rA1.1 st fun y3 =>
 some (.inr (.inr (Op.bytesLess y2 y3)))
 else
 some (.inl (IntKind.wrap .i64 (st + 1)))
 else
 some (.inr (.inl ()))
noncomputable def tR08Ahead (p : List UInt8) (q : List UInt8) : Option Bool :=
 bd (tR08Names p) fun rA =>
 bd (tR08Names q) fun rA1 =>
 bd (
   if !decide (rA.2 = 0) then
   some true
   else
   some (!decide (rA1.2 = 0)) : Option Bool) fun w =>
 if w then
 some false
 else
 bd (Loop (tR08AheadL1 rA rA1) 0) fun w1 =>
 match w1 with
 | .inl p3 =>
   some (decide ((rA.1.length : Int) < (rA1.1.length : Int)))
 | .inr p4 =>
   some p4
noncomputable def tL08PathTwo (p : List UInt8) (q : List UInt8) : Option Bool :=
 bd (
   if (1000 : Int) < (p.length : Int) then
   some true
   else
   some (decide ((1000 : Int) < (q.length : Int))) : Option Bool) fun w =>
 if w then
 bd (tL08Alive) fun rA =>
 some rA
 else
 bd (tPathJoin p q) fun rA1 =>
 bd (tR08Join p q) fun rA2 =>
 bd (
   bd (tL08Alive) fun rA3 =>
   if rA3 then
   if rA1.1 = rA2.1 then
   if rA1.2 = rA2.2 then
   bd (tPathBelow p q) fun rA4 =>
   bd (tR08Below p q) fun rA5 =>
   if rA4 = rA5 then
   bd (tPathAhead p q) fun rA6 =>
   bd (tR08Ahead p q) fun rA7 =>
   some (decide (rA6 = rA7))
   else
   some false
   else
   some false
   else
   some false
   else
   some false : Option Bool) fun w1 =>
 some w1
noncomputable def tL08PathJoins (a : List UInt8) (a1 : List UInt8) : Option Bool :=
 bd (
   if (1000 : Int) < (a.length : Int) then
   some true
   else
   some (decide ((1000 : Int) < (a1.length : Int))) : Option Bool) fun w =>
 if w then
 bd (tL08Alive) fun rA =>
 some rA
 else
 bd (tPathNames a) fun rA1 =>
 bd (tPathParent a) fun rA2 =>
 bd (
   bd (tPathRight a) fun rA3 =>
   if !(decide ((decide (rA1.2 = 0)) = rA3)) then
   some true
   else
   if rA2.2 = 0 then
   if !decide (rA1.2 = 0) then
   some true
   else
   some (decide ((rA1.1.length : Int) = 0))
   else
   some false : Option Bool) fun w1 =>
 if w1 then
 some false
 else
 bd (
   if rA2.2 = 0 then
   ix rA1.1 (IntKind.wrap .i64 ((rA1.1.length : Int) - 1)) fun y =>
   bd (tPathJoin rA2.1 y) fun rA4 =>
   bd (
     if !decide (rA4.2 = 0) then
     some true
     else
     if !decide (rA4.1 = a) then
     some true
     else
     bd (tPathBelow rA2.1 a) fun rA5 =>
     some (!rA5) : Option Bool) fun w3 =>
   if w3 then
   some (.inl false)
   else
   some (.inr ())
   else
   some (.inr ()) : Option (Bool ⊕ Unit)) fun w2 =>
 match w2 with
 | .inl p1 =>
   some p1
 | .inr p2 =>
   bd (tPathJoin a a1) fun rA6 =>
   if !decide (rA6.2 = 0) then
   bd (
     bd (tL08Alive) fun rA7 =>
     if rA7 then
     if rA6.1 = ([] : List UInt8) then
     some (decide (rA6.2 = 13))
     else
     some false
     else
     some false : Option Bool) fun w4 =>
   some w4
   else
   bd (tPathParent rA6.1) fun rA8 =>
   bd (
     bd (tL08Alive) fun rA9 =>
     if rA9 then
     if rA8.2 = 0 then
     if rA8.1 = a then
     bd (tPathBelow a rA6.1) fun rA10 =>
     if rA10 then
     bd (tPathRight rA6.1) fun rA11 =>
     if rA11 then
     bd (tPathIsName a1) fun rA12 =>
     some rA12
     else
     some false
     else
     some false
     else
     some false
     else
     some false
     else
     some false : Option Bool) fun w5 =>
   some w5
noncomputable def tL08PathMadeL1 (rA1 : (List (List UInt8)) × Int) (st : (List UInt8) × Int) : Option (((List UInt8) × Int) ⊕ ((List UInt8) ⊕ Bool)) :=
 if st.2 < (rA1.1.length : Int) then
 ix rA1.1 st.2 fun y =>
 bd (tPathJoin st.1 y) fun rA4 =>
 bd (
   if !decide (rA4.2 = 0) then
   some true
   else
   ix rA1.1 st.2 fun y1 =>
   bd (tPathIsName y1) fun rA5 =>
   if !rA5 then
   some true
   else
   bd (tPathBelow st.1 rA4.1) fun rA6 =>
   some (!rA6) : Option Bool) fun w2 =>
 if w2 then
 some (.inr (.inr false))
 else
 some (.inl (rA4.1, IntKind.wrap .i64 (st.2 + 1)))
 else
 some (.inr (.inl st.1))
noncomputable def tL08PathMade (a : List UInt8) : Option Bool :=
 if (1000 : Int) < (a.length : Int) then
 bd (tL08Alive) fun rA =>
 some rA
 else
 bd (tPathNames a) fun rA1 =>
 if !decide (rA1.2 = 0) then
 bd (
   bd (tL08Alive) fun rA2 =>
   if rA2 then
   if (rA1.1.length : Int) = 0 then
   bd (tPathRight a) fun rA3 =>
   some (!rA3)
   else
   some false
   else
   some false : Option Bool) fun w =>
 some w
 else
 bd (Loop (tL08PathMadeL1 rA1) (([47] : List UInt8), 0)) fun w1 =>
 match w1 with
 | .inl p1 =>
   bd (
     bd (tL08Alive) fun rA7 =>
     if rA7 then
     if p1 = a then
     some (decide ((rA1.1.length : Int) ≤ 8))
     else
     some false
     else
     some false : Option Bool) fun w3 =>
   some w3
 | .inr p2 =>
   some p2
end Dn.S
