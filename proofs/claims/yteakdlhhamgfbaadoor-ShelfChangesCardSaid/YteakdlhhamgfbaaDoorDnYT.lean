import Derived.Test.YteakdlhhamgfbaaDoorDnD
/-
  The functions, on typed values. Conditions: none.
-/
open Go Dn
set_option linter.unusedVariables false
set_option linter.unusedSimpArgs false
set_option maxRecDepth 100000
namespace Dn.S
structure ShelfNode where
  Path : List UInt8
  Value : List UInt8
  Version : Int
  Owner : Int
deriving DecidableEq
@[reducible] def lvShelfNode (x : ShelfNode) : List MV := [.s x.Path, .s x.Value, .i .i64 x.Version, .i .i64 x.Owner]
@[reducible] def encShelfNode (x : ShelfNode) : MV := .agg (lvShelfNode x)
structure ShelfShelf where
  L : List ShelfNode
deriving DecidableEq
@[reducible] def lvShelfShelf (x : ShelfShelf) : List MV := [.list (x.L.map encShelfNode)]
@[reducible] def encShelfShelf (x : ShelfShelf) : MV := .agg (lvShelfShelf x)
structure R09Node where
  Path : List UInt8
  Value : List UInt8
  Version : Int
  Owner : Int
deriving DecidableEq
@[reducible] def lvR09Node (x : R09Node) : List MV := [.s x.Path, .s x.Value, .i .i64 x.Version, .i .i64 x.Owner]
@[reducible] def encR09Node (x : R09Node) : MV := .agg (lvR09Node x)
structure R09Shelf where
  L : List R09Node
deriving DecidableEq
@[reducible] def lvR09Shelf (x : R09Shelf) : List MV := [.list (x.L.map encR09Node)]
@[reducible] def encR09Shelf (x : R09Shelf) : MV := .agg (lvR09Shelf x)
structure L09Change where
  Path : List UInt8
  Value : List UInt8
  Owner : Int
  Version : Int
deriving DecidableEq
@[reducible] def lvL09Change (x : L09Change) : List MV := [.s x.Path, .s x.Value, .i .i64 x.Owner, .i .i64 x.Version]
@[reducible] def encL09Change (x : L09Change) : MV := .agg (lvL09Change x)
noncomputable def tStringsliteHasPrefix (sA : List UInt8) (prefixA : List UInt8) : Option Bool :=
 bd (
   if (prefixA.length : Int) ≤ (sA.length : Int) then
   if (0 : Int) ≤ 0 ∧ (0 : Int) ≤ (prefixA.length : Int) ∧ (prefixA.length : Int) ≤ (sA.length : Int) then
   some (decide ((List.drop (Int.toNat 0) (List.take (Int.toNat (prefixA.length : Int)) sA)) = prefixA))
   else none
   else
   some false : Option Bool) fun w =>
 some w
noncomputable def tStringsliteCutPrefix (sA : List UInt8) (prefixA : List UInt8) : Option ((List UInt8) × Bool) :=
 bd (tStringsliteHasPrefix sA prefixA) fun rA =>
 if !rA then
 some (sA, false)
 else
 if (0 : Int) ≤ (prefixA.length : Int) ∧ (prefixA.length : Int) ≤ (sA.length : Int) ∧ (sA.length : Int) ≤ (sA.length : Int) then
 some (List.drop (Int.toNat (prefixA.length : Int)) (List.take (Int.toNat (sA.length : Int)) sA), true)
 else none
noncomputable def tStringsCutPrefix (sA : List UInt8) (prefixA : List UInt8) : Option ((List UInt8) × Bool) :=
 bd (tStringsliteCutPrefix sA prefixA) fun rA =>
 some (rA.1, rA.2)
noncomputable def tPathIsNameF1 (c : Int) : Option Bool :=
 bd (tHasRune ([97, 98, 99, 100, 101, 102, 103, 104, 105, 106, 107, 108, 109, 110, 111, 112, 113, 114, 115, 116, 117, 118, 119, 120, 121, 122, 48, 49, 50, 51, 52, 53, 54, 55, 56, 57, 45, 95] : List UInt8) c) fun rA =>
 some (!rA)
noncomputable def tStringsIndexInL1 (f : Int → Option Bool) (truth : Bool) (st : (List MV)) : Option ((List MV) ⊕ (Unit ⊕ Int)) :=
 if itOk st then
 bd (f (itRune st)) fun rA =>
 if rA = truth then
 some (.inr (.inr (itPos st)))
 else
 some (.inl (itStep st))
 else
 some (.inr (.inl ()))
noncomputable def tStringsIndexIn (sA : List UInt8) (f : Int → Option Bool) (truth : Bool) : Option Int :=
 bd (Loop (tStringsIndexInL1 f truth) ([.s sA, .i .i64 0] : List MV)) fun w =>
 match w with
 | .inl p1 =>
   some (-1)
 | .inr p2 =>
   some p2
noncomputable def tStringsIndexFunc (sA : List UInt8) (f : Int → Option Bool) : Option Int :=
 bd (tStringsIndexIn sA f true) fun rA =>
 some rA
noncomputable def tStringsContainsFunc (sA : List UInt8) (f : Int → Option Bool) : Option Bool :=
 bd (tStringsIndexFunc sA f) fun rA =>
 some (decide ((0 : Int) ≤ rA))
noncomputable def tPathIsName (sA : List UInt8) : Option Bool :=
 bd (
   if !decide (sA = ([] : List UInt8)) then
   if (sA.length : Int) ≤ 30 then
   bd (tTrim sA ([97, 98, 99, 100, 101, 102, 103, 104, 105, 106, 107, 108, 109, 110, 111, 112, 113, 114, 115, 116, 117, 118, 119, 120, 121, 122, 48, 49, 50, 51, 52, 53, 54, 55, 56, 57, 45, 95] : List UInt8)) fun rA =>
   if rA = ([] : List UInt8) then
   bd (tStringsContainsFunc sA tPathIsNameF1) fun rA1 =>
   some (!rA1)
   else
   some false
   else
   some false
   else
   some false : Option Bool) fun w =>
 some w
noncomputable def tPathInnerF1 (sA : List UInt8) : Option Bool :=
 bd (tPathIsName sA) fun rA =>
 some (!rA)
noncomputable def tSlicesIndexFuncStringL1 (sA : List (List UInt8)) (f : (List UInt8) → Option Bool) (st : Int) : Option (Int ⊕ (Unit ⊕ Int)) :=
 if st < (sA.length : Int) then
 ix sA st fun y =>
 bd (f y) fun rA =>
 if rA then
 some (.inr (.inr st))
 else
 some (.inl (IntKind.wrap .i64 (st + 1)))
 else
 some (.inr (.inl ()))
noncomputable def tSlicesIndexFuncString (sA : List (List UInt8)) (f : (List UInt8) → Option Bool) : Option Int :=
 bd (Loop (tSlicesIndexFuncStringL1 sA f) 0) fun w =>
 match w with
 | .inl p1 =>
   some (-1)
 | .inr p2 =>
   some p2
noncomputable def tSlicesContainsFuncString (sA : List (List UInt8)) (f : (List UInt8) → Option Bool) : Option Bool :=
 bd (tSlicesIndexFuncString sA f) fun rA =>
 some (decide ((0 : Int) ≤ rA))
noncomputable def tPathInner (p : List UInt8) : Option ((List (List UInt8)) × Bool) :=
 bd (tStringsCutPrefix p ([47] : List UInt8)) fun rA =>
 bd (
   if !rA.2 then
   some true
   else
   some (decide ((100 : Int) < (p.length : Int))) : Option Bool) fun w =>
 if w then
 some (([] : List (List UInt8)), false)
 else
 if rA.1 = ([] : List UInt8) then
 some (([] : List (List UInt8)), true)
 else
 bd (tSplit rA.1 ([47] : List UInt8)) fun rA1 =>
 bd (
   if (rA1.length : Int) ≤ 8 then
   bd (tSlicesContainsFuncString rA1 tPathInnerF1) fun rA2 =>
   some (rA1, !rA2, rA1)
   else
   some (rA1, false, rA1) : Option ((List (List UInt8)) × Bool × (List (List UInt8)))) fun w1 =>
 some (w1.2.2, w1.2.1)
noncomputable def tPathRight (p : List UInt8) : Option Bool :=
 bd (tPathInner p) fun rA =>
 some rA.2
noncomputable def tBytealgLastIndexByteStringL1 (sA : List UInt8) (c : Int) (st : Int) : Option (Int ⊕ (Unit ⊕ Int)) :=
 if (0 : Int) ≤ st then
 if (0 : Int) ≤ st ∧ st < (sA.length : Int) then
 if ((sA.getD (Int.toNat st) 0).toNat : Int) = c then
 some (.inr (.inr st))
 else
 some (.inl (IntKind.wrap .i64 (st - 1)))
 else none
 else
 some (.inr (.inl ()))
noncomputable def tBytealgLastIndexByteString (sA : List UInt8) (c : Int) : Option Int :=
 bd (Loop (tBytealgLastIndexByteStringL1 sA c) (IntKind.wrap .i64 ((sA.length : Int) - 1))) fun w =>
 match w with
 | .inl p1 =>
   some (-1)
 | .inr p2 =>
   some p2
noncomputable def tBytealgHashStrRevStringL1 (sep : List UInt8) (st : Int × Int) : Option ((Int × Int) ⊕ Int) :=
 if (0 : Int) ≤ st.2 then
 if (0 : Int) ≤ st.2 ∧ st.2 < (sep.length : Int) then
 some (.inl (IntKind.wrap .u32 ((IntKind.wrap .u32 (st.1 * 16777619)) + (IntKind.wrap .u32 ((sep.getD (Int.toNat st.2) 0).toNat : Int))), IntKind.wrap .i64 (st.2 - 1)))
 else none
 else
 some (.inr st.1)
noncomputable def tBytealgHashStrRevStringL2 (st1 : Int × Int × Int) : Option ((Int × Int × Int) ⊕ Int) :=
 if (0 : Int) < st1.2.2 then
 none
 else
 some (.inr st1.1)
noncomputable def tBytealgHashStrRevString (sep : List UInt8) : Option (Int × Int) :=
 bd (Loop (tBytealgHashStrRevStringL1 sep) (0, IntKind.wrap .i64 ((sep.length : Int) - 1))) fun w =>
 bd (Loop tBytealgHashStrRevStringL2 (1, 16777619, (sep.length : Int))) fun w1 =>
 some (w, w1)
noncomputable def tBytealgLastIndexRabinKarpStringL1 (a : List UInt8) (a1 : List UInt8) (st : Int × Int) : Option ((Int × Int) ⊕ Int) :=
 if (IntKind.wrap .i64 ((a.length : Int) - (a1.length : Int))) ≤ st.2 then
 if (0 : Int) ≤ st.2 ∧ st.2 < (a.length : Int) then
 some (.inl (IntKind.wrap .u32 ((IntKind.wrap .u32 (st.1 * 16777619)) + (IntKind.wrap .u32 ((a.getD (Int.toNat st.2) 0).toNat : Int))), IntKind.wrap .i64 (st.2 - 1)))
 else none
 else
 some (.inr st.1)
noncomputable def tBytealgLastIndexRabinKarpStringL2 (a : List UInt8) (a1 : List UInt8) (rA : Int × Int) (st1 : Int × Int) : Option ((Int × Int) ⊕ (Unit ⊕ Int)) :=
 if (0 : Int) ≤ st1.2 then
 if (0 : Int) ≤ st1.2 ∧ st1.2 < (a.length : Int) then
 if (0 : Int) ≤ (IntKind.wrap .i64 (st1.2 + (a1.length : Int))) ∧ (IntKind.wrap .i64 (st1.2 + (a1.length : Int))) < (a.length : Int) then
 bd (
   if (IntKind.wrap .u32 ((IntKind.wrap .u32 ((IntKind.wrap .u32 (st1.1 * 16777619)) + (IntKind.wrap .u32 ((a.getD (Int.toNat st1.2) 0).toNat : Int)))) - (IntKind.wrap .u32 (rA.2 * (IntKind.wrap .u32 ((a.getD (Int.toNat (IntKind.wrap .i64 (st1.2 + (a1.length : Int)))) 0).toNat : Int)))))) = rA.1 then
   if (0 : Int) ≤ st1.2 ∧ st1.2 ≤ (IntKind.wrap .i64 (st1.2 + (a1.length : Int))) ∧ (IntKind.wrap .i64 (st1.2 + (a1.length : Int))) ≤ (a.length : Int) then
   some (decide ((List.drop (Int.toNat st1.2) (List.take (Int.toNat (IntKind.wrap .i64 (st1.2 + (a1.length : Int)))) a)) = a1))
   else none
   else
   some false : Option Bool) fun w3 =>
 if w3 then
 some (.inr (.inr st1.2))
 else
 some (.inl (IntKind.wrap .u32 ((IntKind.wrap .u32 ((IntKind.wrap .u32 (st1.1 * 16777619)) + (IntKind.wrap .u32 ((a.getD (Int.toNat st1.2) 0).toNat : Int)))) - (IntKind.wrap .u32 (rA.2 * (IntKind.wrap .u32 ((a.getD (Int.toNat (IntKind.wrap .i64 (st1.2 + (a1.length : Int)))) 0).toNat : Int))))), IntKind.wrap .i64 (st1.2 - 1)))
 else none
 else none
 else
 some (.inr (.inl ()))
noncomputable def tBytealgLastIndexRabinKarpString (a : List UInt8) (a1 : List UInt8) : Option Int :=
 bd (tBytealgHashStrRevString a1) fun rA =>
 bd (Loop (tBytealgLastIndexRabinKarpStringL1 a a1) (0, IntKind.wrap .i64 ((a.length : Int) - 1))) fun w =>
 bd (
   if w = rA.1 then
   if (0 : Int) ≤ (IntKind.wrap .i64 ((a.length : Int) - (a1.length : Int))) ∧ (IntKind.wrap .i64 ((a.length : Int) - (a1.length : Int))) ≤ (a.length : Int) ∧ (a.length : Int) ≤ (a.length : Int) then
   some (decide ((List.drop (Int.toNat (IntKind.wrap .i64 ((a.length : Int) - (a1.length : Int)))) (List.take (Int.toNat (a.length : Int)) a)) = a1))
   else none
   else
   some false : Option Bool) fun w1 =>
 if w1 then
 some (IntKind.wrap .i64 ((a.length : Int) - (a1.length : Int)))
 else
 bd (Loop (tBytealgLastIndexRabinKarpStringL2 a a1 rA) (w, IntKind.wrap .i64 ((IntKind.wrap .i64 ((a.length : Int) - (a1.length : Int))) - 1))) fun w2 =>
 match w2 with
 | .inl p2 =>
   some (-1)
 | .inr p3 =>
   some p3
noncomputable def tStringsLastIndex (sA : List UInt8) (substr : List UInt8) : Option Int :=
 if (substr.length : Int) = 0 then
 some (sA.length : Int)
 else
 if (substr.length : Int) = 1 then
 if (0 : Int) ≤ 0 ∧ (0 : Int) < (substr.length : Int) then
 bd (tBytealgLastIndexByteString sA ((substr.getD (Int.toNat 0) 0).toNat : Int)) fun rA =>
 some rA
 else none
 else
 if (substr.length : Int) = (sA.length : Int) then
 if substr = sA then
 some 0
 else
 some (-1)
 else
 if (sA.length : Int) < (substr.length : Int) then
 some (-1)
 else
 bd (tBytealgLastIndexRabinKarpString sA substr) fun rA1 =>
 some rA1
noncomputable def tPathParent (p : List UInt8) : Option ((List UInt8) × Int) :=
 bd (tPathRight p) fun rA =>
 if !rA then
 some (([] : List UInt8), 13)
 else
 if p = ([47] : List UInt8) then
 some (([] : List UInt8), 6)
 else
 bd (tStringsLastIndex p ([47] : List UInt8)) fun rA1 =>
 if (0 : Int) ≤ 0 ∧ (0 : Int) ≤ (imax 1 rA1) ∧ (imax 1 rA1) ≤ (p.length : Int) then
 some (List.drop (Int.toNat 0) (List.take (Int.toNat (imax 1 rA1)) p), 0)
 else none
noncomputable def tCmpIsNaNString (x : List UInt8) : Option Bool :=
 some (!decide (x = x))
noncomputable def tCmpCompareString (x : List UInt8) (y : List UInt8) : Option Int :=
 bd (tCmpIsNaNString x) fun rA =>
 bd (tCmpIsNaNString y) fun rA1 =>
 if rA then
 if rA1 then
 some 0
 else
 some (-1)
 else
 if rA1 then
 some 1
 else
 if Op.bytesLess x y then
 some (-1)
 else
 if !(Op.bytesLess x y || decide (x = y)) then
 some 1
 else
 some 0
noncomputable def tSlicesCompareStringL1 (s1 : List (List UInt8)) (s2 : List (List UInt8)) (st : Int) : Option (Int ⊕ (Unit ⊕ Int)) :=
 if st < (s1.length : Int) then
 ix s1 st fun y =>
 if (s2.length : Int) ≤ st then
 some (.inr (.inr 1))
 else
 ix s2 st fun y1 =>
 bd (tCmpCompareString y y1) fun rA =>
 if !decide (rA = 0) then
 some (.inr (.inr rA))
 else
 some (.inl (IntKind.wrap .i64 (st + 1)))
 else
 some (.inr (.inl ()))
noncomputable def tSlicesCompareString (s1 : List (List UInt8)) (s2 : List (List UInt8)) : Option Int :=
 bd (Loop (tSlicesCompareStringL1 s1 s2) 0) fun w =>
 match w with
 | .inl p1 =>
   if (s1.length : Int) < (s2.length : Int) then
   some (-1)
   else
   some 0
 | .inr p2 =>
   some p2
noncomputable def tPathAhead (p : List UInt8) (q : List UInt8) : Option Bool :=
 bd (tPathInner p) fun rA =>
 bd (tPathInner q) fun rA1 =>
 bd (
   if rA.2 then
   if rA1.2 then
   bd (tSlicesCompareString rA.1 rA1.1) fun rA2 =>
   some (decide (rA2 < 0))
   else
   some false
   else
   some false : Option Bool) fun w =>
 some w
noncomputable def tL08Alive : Option Bool :=
 bd (tPathParent ([47, 97, 47, 98] : List UInt8)) fun rA =>
 bd (tPathParent ([47] : List UInt8)) fun rA1 =>
 bd (
   if rA.1 = ([47, 97] : List UInt8) then
   if rA.2 = 0 then
   if rA1.2 = 6 then
   bd (tPathRight ([47] : List UInt8)) fun rA2 =>
   if rA2 then
   bd (tPathRight ([97] : List UInt8)) fun rA3 =>
   if !rA3 then
   bd (tPathAhead ([47, 97, 47, 98] : List UInt8) ([47, 97, 45, 98] : List UInt8)) fun rA4 =>
   some rA4
   else
   some false
   else
   some false
   else
   some false
   else
   some false
   else
   some false : Option Bool) fun w =>
 some w
noncomputable def tPathNames (p : List UInt8) : Option ((List (List UInt8)) × Int) :=
 bd (tPathInner p) fun rA =>
 if !rA.2 then
 some (([] : List (List UInt8)), 13)
 else
 some (rA.1, 0)
noncomputable def tR08IsNameL1 (sA : List UInt8) (st : Int) : Option (Int ⊕ (Unit ⊕ Bool)) :=
 if st < (sA.length : Int) then
 if (0 : Int) ≤ st ∧ st < (sA.length : Int) then
 bd (
   if (97 : Int) ≤ ((sA.getD (Int.toNat st) 0).toNat : Int) then
   if ((sA.getD (Int.toNat st) 0).toNat : Int) ≤ 122 then
   some true
   else
   if (48 : Int) ≤ ((sA.getD (Int.toNat st) 0).toNat : Int) then
   if ((sA.getD (Int.toNat st) 0).toNat : Int) ≤ 57 then
   some true
   else
   if ((sA.getD (Int.toNat st) 0).toNat : Int) = 45 then
   some true
   else
   some (decide (((sA.getD (Int.toNat st) 0).toNat : Int) = 95))
   else
   if ((sA.getD (Int.toNat st) 0).toNat : Int) = 45 then
   some true
   else
   some (decide (((sA.getD (Int.toNat st) 0).toNat : Int) = 95))
   else
   if (48 : Int) ≤ ((sA.getD (Int.toNat st) 0).toNat : Int) then
   if ((sA.getD (Int.toNat st) 0).toNat : Int) ≤ 57 then
   some true
   else
   if ((sA.getD (Int.toNat st) 0).toNat : Int) = 45 then
   some true
   else
   some (decide (((sA.getD (Int.toNat st) 0).toNat : Int) = 95))
   else
   if ((sA.getD (Int.toNat st) 0).toNat : Int) = 45 then
   some true
   else
   some (decide (((sA.getD (Int.toNat st) 0).toNat : Int) = 95)) : Option Bool) fun w1 =>
 if !w1 then
 some (.inr (.inr false))
 else
 some (.inl (IntKind.wrap .i64 (st + 1)))
 else none
 else
 some (.inr (.inl ()))
noncomputable def tR08IsName (sA : List UInt8) : Option Bool :=
 bd (Loop (tR08IsNameL1 sA) 0) fun w =>
 match w with
 | .inl p1 =>
   bd (
     if (1 : Int) ≤ (sA.length : Int) then
     some (decide ((sA.length : Int) ≤ 30))
     else
     some false : Option Bool) fun w2 =>
   some w2
 | .inr p2 =>
   some p2
noncomputable def tR08CutL1 (p : List UInt8) (st : (List (List UInt8)) × (List UInt8) × Int) : Option (((List (List UInt8)) × (List UInt8) × Int) ⊕ ((List (List UInt8)) × (List UInt8))) :=
 if st.2.2 < (p.length : Int) then
 if (0 : Int) ≤ st.2.2 ∧ st.2.2 < (p.length : Int) then
 bd (
   if ((p.getD (Int.toNat st.2.2) 0).toNat : Int) = 47 then
   if (st.1.length + ([st.2.1] : List (List UInt8)).length) * 16 ≤ 2 ^ 46 then
   some (st.1 ++ ([st.2.1] : List (List UInt8)), ([] : List UInt8))
   else none
   else
   if (0 : Int) ≤ st.2.2 ∧ st.2.2 < (p.length : Int) then
   bysT ([((p.getD (Int.toNat st.2.2) 0).toNat : Int)] : List Int) fun bs =>
   if st.2.1.length + bs.length ≤ 2 ^ 46 then
   some (st.1, st.2.1 ++ bs)
   else none
   else none : Option ((List (List UInt8)) × (List UInt8))) fun w2 =>
 some (.inl (w2.1, w2.2, IntKind.wrap .i64 (st.2.2 + 1)))
 else none
 else
 some (.inr (st.1, st.2.1))
noncomputable def tR08Cut (p : List UInt8) : Option ((List (List UInt8)) × Bool) :=
 bd (
   if (p.length : Int) = 0 then
   some true
   else
   if (0 : Int) ≤ 0 ∧ (0 : Int) < (p.length : Int) then
   some (!decide (((p.getD (Int.toNat 0) 0).toNat : Int) = 47))
   else none : Option Bool) fun w =>
 if w then
 some (([] : List (List UInt8)), false)
 else
 if p = ([47] : List UInt8) then
 some (([] : List (List UInt8)), true)
 else
 bd (Loop (tR08CutL1 p) (([] : List (List UInt8)), ([] : List UInt8), 1)) fun w1 =>
 if (w1.1.length + ([w1.2] : List (List UInt8)).length) * 16 ≤ 2 ^ 46 then
 some (w1.1 ++ ([w1.2] : List (List UInt8)), true)
 else none
noncomputable def tR08RightL1 (rA : (List (List UInt8)) × Bool) (st : Int) : Option (Int ⊕ (Unit ⊕ Bool)) :=
 if st < (rA.1.length : Int) then
 ix rA.1 st fun y =>
 bd (tR08IsName y) fun rA1 =>
 if !rA1 then
 some (.inr (.inr false))
 else
 some (.inl (IntKind.wrap .i64 (st + 1)))
 else
 some (.inr (.inl ()))
noncomputable def tR08Right (p : List UInt8) : Option Bool :=
 if (100 : Int) < (p.length : Int) then
 some false
 else
 bd (tR08Cut p) fun rA =>
 bd (Loop (tR08RightL1 rA) 0) fun w =>
 match w with
 | .inl p3 =>
   bd (
     if rA.2 then
     some (decide ((rA.1.length : Int) ≤ 8))
     else
     some false : Option Bool) fun w1 =>
   some w1
 | .inr p4 =>
   some p4
noncomputable def tR08Names (p : List UInt8) : Option ((List (List UInt8)) × Int) :=
 bd (tR08Right p) fun rA =>
 if !rA then
 some (([] : List (List UInt8)), 13)
 else
 bd (tR08Cut p) fun rA1 =>
 some (rA1.1, 0)
noncomputable def tR08MadeL1 (lA : List (List UInt8)) (st : (List UInt8) × Int) : Option (((List UInt8) × Int) ⊕ (List UInt8)) :=
 if st.2 < (lA.length : Int) then
 if st.1.length + ([47] : List UInt8).length ≤ 2 ^ 46 then
 ix lA st.2 fun y =>
 if (st.1 ++ ([47] : List UInt8)).length + y.length ≤ 2 ^ 46 then
 some (.inl ((st.1 ++ ([47] : List UInt8)) ++ y, IntKind.wrap .i64 (st.2 + 1)))
 else none
 else none
 else
 some (.inr st.1)
noncomputable def tR08Made (lA : List (List UInt8)) : Option (List UInt8) :=
 bd (Loop (tR08MadeL1 lA) (([] : List UInt8), 0)) fun w =>
 if w = ([] : List UInt8) then
 some ([47] : List UInt8)
 else
 some w
noncomputable def tR08Parent (p : List UInt8) : Option ((List UInt8) × Int) :=
 bd (tR08Names p) fun rA =>
 if !decide (rA.2 = 0) then
 some (([] : List UInt8), rA.2)
 else
 if (rA.1.length : Int) = 0 then
 some (([] : List UInt8), 6)
 else
 if (0 : Int) ≤ 0 ∧ (0 : Int) ≤ (IntKind.wrap .i64 ((rA.1.length : Int) - 1)) ∧ (IntKind.wrap .i64 ((rA.1.length : Int) - 1)) ≤ (rA.1.length : Int) then
 bd (tR08Made (List.drop (Int.toNat 0) (List.take (Int.toNat (IntKind.wrap .i64 ((rA.1.length : Int) - 1))) rA.1))) fun rA1 =>
 some (rA1, 0)
 else none
noncomputable def tR01StringsL1 (a : List (List UInt8)) (b : List (List UInt8)) (st : Int) : Option (Int ⊕ (Unit ⊕ Bool)) :=
 if st < (a.length : Int) then
 ix a st fun y =>
 ix b st fun y1 =>
 if !decide (y = y1) then
 some (.inr (.inr false))
 else
 some (.inl (IntKind.wrap .i64 (st + 1)))
 else
 some (.inr (.inl ()))
noncomputable def tR01Strings (a : List (List UInt8)) (b : List (List UInt8)) : Option Bool :=
 if !decide ((a.length : Int) = (b.length : Int)) then
 some false
 else
 bd (Loop (tR01StringsL1 a b) 0) fun w =>
 match w with
 | .inl p1 =>
   some true
 | .inr p2 =>
   some p2
noncomputable def tL08PathTells (a : List UInt8) : Option Bool :=
 if (1000 : Int) < (a.length : Int) then
 bd (tL08Alive) fun rA =>
 some rA
 else
 bd (tPathNames a) fun rA1 =>
 bd (tR08Names a) fun rA2 =>
 bd (tPathParent a) fun rA3 =>
 bd (tR08Parent a) fun rA4 =>
 bd (
   bd (tL08Alive) fun rA5 =>
   if rA5 then
   bd (tPathIsName a) fun rA6 =>
   bd (tR08IsName a) fun rA7 =>
   if rA6 = rA7 then
   bd (tPathRight a) fun rA8 =>
   bd (tR08Right a) fun rA9 =>
   if rA8 = rA9 then
   bd (tR01Strings rA1.1 rA2.1) fun rA10 =>
   if rA10 then
   if rA1.2 = rA2.2 then
   if rA3.1 = rA4.1 then
   some (decide (rA3.2 = rA4.2))
   else
   some false
   else
   some false
   else
   some false
   else
   some false
   else
   some false
   else
   some false : Option Bool) fun w =>
 some w
noncomputable def tSlicesEqualStringL1 (s1 : List (List UInt8)) (s2 : List (List UInt8)) (st : Int) : Option (Int ⊕ (Unit ⊕ Bool)) :=
 if st < (s1.length : Int) then
 ix s1 st fun y =>
 ix s2 st fun y1 =>
 if !decide (y = y1) then
 some (.inr (.inr false))
 else
 some (.inl (IntKind.wrap .i64 (st + 1)))
 else
 some (.inr (.inl ()))
noncomputable def tSlicesEqualString (s1 : List (List UInt8)) (s2 : List (List UInt8)) : Option Bool :=
 if !decide ((s1.length : Int) = (s2.length : Int)) then
 some false
 else
 bd (Loop (tSlicesEqualStringL1 s1 s2) 0) fun w =>
 match w with
 | .inl p1 =>
   some true
 | .inr p2 =>
   some p2
noncomputable def tPathBelow (p : List UInt8) (q : List UInt8) : Option Bool :=
 bd (tPathInner p) fun rA =>
 bd (tPathInner q) fun rA1 =>
 bd (
   if rA.2 then
   if rA1.2 then
   if (rA.1.length : Int) < (rA1.1.length : Int) then
   if (0 : Int) ≤ 0 ∧ (0 : Int) ≤ (rA.1.length : Int) ∧ (rA.1.length : Int) ≤ (rA1.1.length : Int) then
   bd (tSlicesEqualString rA.1 (List.drop (Int.toNat 0) (List.take (Int.toNat (rA.1.length : Int)) rA1.1))) fun rA2 =>
   some rA2
   else none
   else
   some false
   else
   some false
   else
   some false : Option Bool) fun w =>
 some w
noncomputable def tL08PathOrder (a : List UInt8) (a1 : List UInt8) (a2 : List UInt8) : Option Bool :=
 bd (
   if (1000 : Int) < (a.length : Int) then
   some true
   else
   if (1000 : Int) < (a1.length : Int) then
   some true
   else
   if (1000 : Int) < (a2.length : Int) then
   some true
   else
   bd (tPathRight a) fun rA =>
   if !rA then
   some true
   else
   bd (tPathRight a1) fun rA1 =>
   if !rA1 then
   some true
   else
   bd (tPathRight a2) fun rA2 =>
   some (!rA2) : Option Bool) fun w =>
 if w then
 bd (tL08Alive) fun rA3 =>
 some rA3
 else
 bd (
   bd (tPathAhead a a) fun rA4 =>
   if rA4 then
   some true
   else
   if !decide (a = a1) then
   bd (tPathAhead a a1) fun rA5 =>
   bd (tPathAhead a1 a) fun rA6 =>
   if rA5 = rA6 then
   some true
   else
   bd (tPathAhead a a1) fun rA7 =>
   if rA7 then
   bd (tPathAhead a1 a2) fun rA8 =>
   if rA8 then
   bd (tPathAhead a a2) fun rA9 =>
   some (!rA9)
   else
   some false
   else
   some false
   else
   bd (tPathAhead a a1) fun rA10 =>
   if rA10 then
   bd (tPathAhead a1 a2) fun rA11 =>
   if rA11 then
   bd (tPathAhead a a2) fun rA12 =>
   some (!rA12)
   else
   some false
   else
   some false : Option Bool) fun w1 =>
 if w1 then
 some false
 else
 bd (
   bd (tPathAhead a a1) fun rA13 =>
   if rA13 then
   bd (tPathAhead a1 a2) fun rA14 =>
   if rA14 then
   bd (tPathBelow a a2) fun rA15 =>
   some rA15
   else
   some false
   else
   some false : Option Bool) fun w2 =>
 bd (
   bd (tL08Alive) fun rA16 =>
   if rA16 then
   bd (tPathBelow a a1) fun rA17 =>
   if !rA17 then
   if !w2 then
   some true
   else
   bd (tPathBelow a a1) fun rA18 =>
   some rA18
   else
   bd (tPathAhead a a1) fun rA19 =>
   if rA19 then
   if !w2 then
   some true
   else
   bd (tPathBelow a a1) fun rA20 =>
   some rA20
   else
   some false
   else
   some false : Option Bool) fun w3 =>
 some w3
noncomputable def tStringsliteHasSuffix (sA : List UInt8) (suffix : List UInt8) : Option Bool :=
 bd (
   if (suffix.length : Int) ≤ (sA.length : Int) then
   if (0 : Int) ≤ (IntKind.wrap .i64 ((sA.length : Int) - (suffix.length : Int))) ∧ (IntKind.wrap .i64 ((sA.length : Int) - (suffix.length : Int))) ≤ (sA.length : Int) ∧ (sA.length : Int) ≤ (sA.length : Int) then
   some (decide ((List.drop (Int.toNat (IntKind.wrap .i64 ((sA.length : Int) - (suffix.length : Int)))) (List.take (Int.toNat (sA.length : Int)) sA)) = suffix))
   else none
   else
   some false : Option Bool) fun w =>
 some w
noncomputable def tStringsliteTrimSuffix (sA : List UInt8) (suffix : List UInt8) : Option (List UInt8) :=
 bd (tStringsliteHasSuffix sA suffix) fun rA =>
 if rA then
 if (0 : Int) ≤ 0 ∧ (0 : Int) ≤ (IntKind.wrap .i64 ((sA.length : Int) - (suffix.length : Int))) ∧ (IntKind.wrap .i64 ((sA.length : Int) - (suffix.length : Int))) ≤ (sA.length : Int) then
 some (List.drop (Int.toNat 0) (List.take (Int.toNat (IntKind.wrap .i64 ((sA.length : Int) - (suffix.length : Int)))) sA))
 else none
 else
 some sA
noncomputable def tStringsTrimSuffix (sA : List UInt8) (suffix : List UInt8) : Option (List UInt8) :=
 bd (tStringsliteTrimSuffix sA suffix) fun rA =>
 some rA
noncomputable def tPathJoin (p : List UInt8) (name : List UInt8) : Option ((List UInt8) × Int) :=
 bd (tStringsTrimSuffix p ([47] : List UInt8)) fun rA =>
 if rA.length + ([47] : List UInt8).length ≤ 2 ^ 46 then
 if (rA ++ ([47] : List UInt8)).length + name.length ≤ 2 ^ 46 then
 bd (
   bd (tPathRight p) fun rA1 =>
   if !rA1 then
   some true
   else
   bd (tPathIsName name) fun rA2 =>
   if !rA2 then
   some true
   else
   bd (tPathRight ((rA ++ ([47] : List UInt8)) ++ name)) fun rA3 =>
   some (!rA3) : Option Bool) fun w =>
 if w then
 some (([] : List UInt8), 13)
 else
 some ((rA ++ ([47] : List UInt8)) ++ name, 0)
 else none
 else none
noncomputable def tL08PathJoins (a : List UInt8) (a1 : List UInt8) : Option Bool :=
 bd (
   if (1000 : Int) < (a.length : Int) then
   some true
   else
   some (decide ((1000 : Int) < (a1.length : Int))) : Option Bool) fun w =>
 if w then
 bd (tL08Alive) fun rA =>
 some rA
 else
 bd (tPathNames a) fun rA1 =>
 bd (tPathParent a) fun rA2 =>
 bd (
   bd (tPathRight a) fun rA3 =>
   if !(decide ((decide (rA1.2 = 0)) = rA3)) then
   some true
   else
   if rA2.2 = 0 then
   if !decide (rA1.2 = 0) then
   some true
   else
   some (decide ((rA1.1.length : Int) = 0))
   else
   some false : Option Bool) fun w1 =>
 if w1 then
 some false
 else
 bd (
   if rA2.2 = 0 then
   ix rA1.1 (IntKind.wrap .i64 ((rA1.1.length : Int) - 1)) fun y =>
   bd (tPathJoin rA2.1 y) fun rA4 =>
   bd (
     if !decide (rA4.2 = 0) then
     some true
     else
     if !decide (rA4.1 = a) then
     some true
     else
     bd (tPathBelow rA2.1 a) fun rA5 =>
     some (!rA5) : Option Bool) fun w3 =>
   if w3 then
   some (.inl false)
   else
   some (.inr ())
   else
   some (.inr ()) : Option (Bool ⊕ Unit)) fun w2 =>
 match w2 with
 | .inl p1 =>
   some p1
 | .inr p2 =>
   bd (tPathJoin a a1) fun rA6 =>
   if !decide (rA6.2 = 0) then
   bd (
     bd (tL08Alive) fun rA7 =>
     if rA7 then
     if rA6.1 = ([] : List UInt8) then
     some (decide (rA6.2 = 13))
     else
     some false
     else
     some false : Option Bool) fun w4 =>
   some w4
   else
   bd (tPathParent rA6.1) fun rA8 =>
   bd (
     bd (tL08Alive) fun rA9 =>
     if rA9 then
     if rA8.2 = 0 then
     if rA8.1 = a then
     bd (tPathBelow a rA6.1) fun rA10 =>
     if rA10 then
     bd (tPathRight rA6.1) fun rA11 =>
     if rA11 then
     bd (tPathIsName a1) fun rA12 =>
     some rA12
     else
     some false
     else
     some false
     else
     some false
     else
     some false
     else
     some false : Option Bool) fun w5 =>
   some w5
noncomputable def tL08PathMadeL1 (rA1 : (List (List UInt8)) × Int) (st : (List UInt8) × Int) : Option (((List UInt8) × Int) ⊕ ((List UInt8) ⊕ Bool)) :=
 if st.2 < (rA1.1.length : Int) then
 ix rA1.1 st.2 fun y =>
 bd (tPathJoin st.1 y) fun rA4 =>
 bd (
   if !decide (rA4.2 = 0) then
   some true
   else
   ix rA1.1 st.2 fun y1 =>
   bd (tPathIsName y1) fun rA5 =>
   if !rA5 then
   some true
   else
   bd (tPathBelow st.1 rA4.1) fun rA6 =>
   some (!rA6) : Option Bool) fun w2 =>
 if w2 then
 some (.inr (.inr false))
 else
 some (.inl (rA4.1, IntKind.wrap .i64 (st.2 + 1)))
 else
 some (.inr (.inl st.1))
noncomputable def tL08PathMade (a : List UInt8) : Option Bool :=
 if (1000 : Int) < (a.length : Int) then
 bd (tL08Alive) fun rA =>
 some rA
 else
 bd (tPathNames a) fun rA1 =>
 if !decide (rA1.2 = 0) then
 bd (
   bd (tL08Alive) fun rA2 =>
   if rA2 then
   if (rA1.1.length : Int) = 0 then
   bd (tPathRight a) fun rA3 =>
   some (!rA3)
   else
   some false
   else
   some false : Option Bool) fun w =>
 some w
 else
 bd (Loop (tL08PathMadeL1 rA1) (([47] : List UInt8), 0)) fun w1 =>
 match w1 with
 | .inl p1 =>
   bd (
     bd (tL08Alive) fun rA7 =>
     if rA7 then
     if p1 = a then
     some (decide ((rA1.1.length : Int) ≤ 8))
     else
     some false
     else
     some false : Option Bool) fun w3 =>
   some w3
 | .inr p2 =>
   some p2
noncomputable def tL09FewL1 (sA : ShelfShelf) (st : Int) : Option (Int ⊕ (Unit ⊕ Bool)) :=
 if st < (sA.L.length : Int) then
 bd (
   if st = 60 then
   some true
   else
   ix sA.L st fun y =>
   if (200 : Int) < (y.Path.length : Int) then
   some true
   else
   ix sA.L st fun y1 =>
   some (decide ((1100 : Int) < (y1.Value.length : Int))) : Option Bool) fun w1 =>
 if w1 then
 some (.inr (.inr false))
 else
 some (.inl (IntKind.wrap .i64 (st + 1)))
 else
 some (.inr (.inl ()))
noncomputable def tL09Few (sA : ShelfShelf) : Option Bool :=
 bd (Loop (tL09FewL1 sA) 0) fun w =>
 match w with
 | .inl p1 =>
   some true
 | .inr p2 =>
   some p2
noncomputable def tShelfNew : Option ShelfShelf :=
 some (⟨([(⟨([47] : List UInt8), ([] : List UInt8), 0, 0⟩ : ShelfNode)] : List ShelfNode)⟩ : ShelfShelf)
noncomputable def tShelfShelfPlaceF1 (n : ShelfNode) (p : List UInt8) : Option Int :=
 if n.Path = p then
 some 0
 else
 bd (tPathAhead n.Path p) fun rA =>
 if rA then
 some (-1)
 else
 some 1
noncomputable def tSlicesBinarySearchFuncShelfNodeStringL1 (x : List ShelfNode) (target : List UInt8) (cmp : ShelfNode → (List UInt8) → Option Int) (st : Int × Int) : Option ((Int × Int) ⊕ Int) :=
 if st.1 < st.2 then
 if (0 : Int) ≤ 1 then
 ix x (IntKind.wrap .i64 (Int.fdiv (IntKind.wrap .u64 (IntKind.wrap .i64 (st.1 + st.2))) (2 ^ min (Int.toNat 1) (IntKind.bits .u64)))) fun y =>
 bd (cmp y target) fun rA =>
 bd (
   if rA < 0 then
   some (IntKind.wrap .i64 ((IntKind.wrap .i64 (Int.fdiv (IntKind.wrap .u64 (IntKind.wrap .i64 (st.1 + st.2))) (2 ^ min (Int.toNat 1) (IntKind.bits .u64)))) + 1), st.2)
   else
   some (st.1, IntKind.wrap .i64 (Int.fdiv (IntKind.wrap .u64 (IntKind.wrap .i64 (st.1 + st.2))) (2 ^ min (Int.toNat 1) (IntKind.bits .u64)))) : Option (Int × Int)) fun w1 =>
 some (.inl (w1.1, w1.2))
 else none
 else
 some (.inr st.1)
noncomputable def tSlicesBinarySearchFuncShelfNodeString (x : List ShelfNode) (target : List UInt8) (cmp : ShelfNode → (List UInt8) → Option Int) : Option (Int × Bool) :=
 bd (Loop (tSlicesBinarySearchFuncShelfNodeStringL1 x target cmp) (0, (x.length : Int))) fun w =>
 bd (
   if w < (x.length : Int) then
   ix x w fun y1 =>
   bd (cmp y1 target) fun rA1 =>
   some (w, decide (rA1 = 0))
   else
   some (w, false) : Option (Int × Bool)) fun w2 =>
 some (w2.1, w2.2)
noncomputable def tShelfShelfPlace (sA : ShelfShelf) (p : List UInt8) : Option (Int × Bool) :=
 bd (tSlicesBinarySearchFuncShelfNodeString sA.L p tShelfShelfPlaceF1) fun rA =>
 some (rA.1, rA.2)
noncomputable def tShelfShelfFind (sA : ShelfShelf) (p : List UInt8) : Option (Int × Int) :=
 bd (tPathRight p) fun rA =>
 if !rA then
 some (0, 13)
 else
 bd (tShelfShelfPlace sA p) fun rA1 =>
 if !rA1.2 then
 some (0, 6)
 else
 some (rA1.1, 0)
noncomputable def tShelfGet (sA : ShelfShelf) (p : List UInt8) : Option (ShelfNode × Int) :=
 bd (tShelfShelfFind sA p) fun rA =>
 if !decide (rA.2 = 0) then
 some ((⟨([] : List UInt8), ([] : List UInt8), 0, 0⟩ : ShelfNode), rA.2)
 else
 ix sA.L rA.1 fun y =>
 some (y, 0)
noncomputable def tShelfCreateF1 (c : List UInt8) (c1 : Bool) (c2 : ShelfShelf) (c3 : List UInt8) (c4 : Int) : Option Int :=
 bd (tPathRight c) fun rA =>
 if !rA then
 some 13
 else
 if c1 then
 some 7
 else
 bd (tPathParent c) fun rA1 =>
 bd (tShelfGet c2 rA1.1) fun rA2 =>
 if !decide (rA2.2 = 0) then
 some 6
 else
 if !decide (rA2.1.Owner = 0) then
 some 10
 else
 if (1000 : Int) < (c3.length : Int) then
 some 5
 else
 if c4 < 0 then
 some 1
 else
 if (200 : Int) ≤ (c2.L.length : Int) then
 some 9
 else
 some 0
noncomputable def tShelfCreate (sA : ShelfShelf) (p : List UInt8) (value : List UInt8) (owner : Int) : Option (ShelfShelf × Int) :=
 bd (tShelfShelfPlace sA p) fun rA =>
 bd (tShelfCreateF1 p rA.2 sA value owner) fun rA1 =>
 if !decide (rA1 = 0) then
 some (sA, rA1)
 else
 bd (tClone 48 sA.L) fun rA2 =>
 bd (tInsert 48 rA2 rA.1 ([(⟨p, value, 0, owner⟩ : ShelfNode)] : List ShelfNode)) fun rA3 =>
 some ((⟨rA3⟩ : ShelfShelf), 0)
noncomputable def tL09Alive : Option Bool :=
 bd (tShelfNew) fun rA =>
 bd (tShelfCreate rA ([47, 97] : List UInt8) ([120] : List UInt8) 0) fun rA1 =>
 bd (tShelfCreate rA ([47, 97, 47, 98] : List UInt8) ([120] : List UInt8) 0) fun rA2 =>
 bd (tShelfGet rA1.1 ([47, 97] : List UInt8)) fun rA3 =>
 bd (
   if rA1.2 = 0 then
   if rA2.2 = 6 then
   if rA3.2 = 0 then
   if rA3.1.Value = ([120] : List UInt8) then
   if (rA1.1.L.length : Int) = 2 then
   some (decide ((rA.L.length : Int) = 1))
   else
   some false
   else
   some false
   else
   some false
   else
   some false
   else
   some false : Option Bool) fun w =>
 some w
noncomputable def tShelfShelfGrownF1 (x : ShelfNode) (c : List UInt8) : Option Bool :=
 some (decide (x.Path = c))
noncomputable def tSlicesIndexFuncShelfNodeL1 (sA : List ShelfNode) (f : ShelfNode → Option Bool) (st : Int) : Option (Int ⊕ (Unit ⊕ Int)) :=
 if st < (sA.length : Int) then
 ix sA st fun y =>
 bd (f y) fun rA =>
 if rA then
 some (.inr (.inr st))
 else
 some (.inl (IntKind.wrap .i64 (st + 1)))
 else
 some (.inr (.inl ()))
noncomputable def tSlicesIndexFuncShelfNode (sA : List ShelfNode) (f : ShelfNode → Option Bool) : Option Int :=
 bd (Loop (tSlicesIndexFuncShelfNodeL1 sA f) 0) fun w =>
 match w with
 | .inl p1 =>
   some (-1)
 | .inr p2 =>
   some p2
noncomputable def tShelfShelfGrown (sA : ShelfShelf) (n : ShelfNode) : Option Bool :=
 bd (tPathParent n.Path) fun rA =>
 if !decide (rA.2 = 0) then
 some (decide (n.Owner = 0))
 else
 bd (tSlicesIndexFuncShelfNode sA.L (fun u => tShelfShelfGrownF1 u rA.1)) fun rA1 =>
 bd (
   if (0 : Int) ≤ rA1 then
   ix sA.L rA1 fun y =>
   some (decide (y.Owner = 0))
   else
   some false : Option Bool) fun w =>
 some w
noncomputable def tShelfRightL1 (a : ShelfShelf) (st : Int) : Option (Int ⊕ (Unit ⊕ Bool)) :=
 if st < (a.L.length : Int) then
 ix a.L st fun y1 =>
 bd (
   bd (tPathRight y1.Path) fun rA =>
   if !rA then
   some true
   else
   if (1000 : Int) < (y1.Value.length : Int) then
   some true
   else
   if y1.Version < 0 then
   some true
   else
   if (1000000000 : Int) < y1.Version then
   some true
   else
   if y1.Owner < 0 then
   some true
   else
   bd (tShelfShelfGrown a y1) fun rA1 =>
   some (!rA1) : Option Bool) fun w2 =>
 if w2 then
 some (.inr (.inr false))
 else
 bd (
   if (0 : Int) < st then
   ix a.L (IntKind.wrap .i64 (st - 1)) fun y2 =>
   bd (tPathAhead y2.Path y1.Path) fun rA2 =>
   some (!rA2)
   else
   some false : Option Bool) fun w3 =>
 if w3 then
 some (.inr (.inr false))
 else
 some (.inl (IntKind.wrap .i64 (st + 1)))
 else
 some (.inr (.inl ()))
noncomputable def tShelfRight (a : ShelfShelf) : Option Bool :=
 bd (
   if (a.L.length : Int) < 1 then
   some true
   else
   if (200 : Int) < (a.L.length : Int) then
   some true
   else
   ix a.L 0 fun y =>
   some (!decide (y.Path = ([47] : List UInt8))) : Option Bool) fun w =>
 if w then
 some false
 else
 bd (Loop (tShelfRightL1 a) 0) fun w1 =>
 match w1 with
 | .inl p1 =>
   some true
 | .inr p2 =>
   some p2
noncomputable def tR08AheadL1 (rA : (List (List UInt8)) × Int) (rA1 : (List (List UInt8)) × Int) (st : Int) : Option (Int ⊕ (Unit ⊕ Bool)) :=
 bd (
   if st < (rA.1.length : Int) then
   some (decide (st < (rA1.1.length : Int)))
   else
   some false : Option Bool) fun w2 =>
 if w2 then
 ix rA.1 st fun y =>
 ix rA1.1 st fun y1 =>
 if !decide (y = y1) then
 ix rA.1 st fun y2 =>
 ix rA1.1 st fun y3 =>
 some (.inr (.inr (Op.bytesLess y2 y3)))
 else
 some (.inl (IntKind.wrap .i64 (st + 1)))
 else
 some (.inr (.inl ()))
noncomputable def tR08Ahead (p : List UInt8) (q : List UInt8) : Option Bool :=
 bd (tR08Names p) fun rA =>
 bd (tR08Names q) fun rA1 =>
 bd (
   if !decide (rA.2 = 0) then
   some true
   else
   some (!decide (rA1.2 = 0)) : Option Bool) fun w =>
 if w then
 some false
 else
 bd (Loop (tR08AheadL1 rA rA1) 0) fun w1 =>
 match w1 with
 | .inl p3 =>
   some (decide ((rA.1.length : Int) < (rA1.1.length : Int)))
 | .inr p4 =>
   some p4
noncomputable def tR09AtL1 (sA : R09Shelf) (p : List UInt8) (st : Int) : Option (Int ⊕ (Unit ⊕ Int)) :=
 if st < (sA.L.length : Int) then
 ix sA.L st fun y =>
 if y.Path = p then
 some (.inr (.inr st))
 else
 some (.inl (IntKind.wrap .i64 (st + 1)))
 else
 some (.inr (.inl ()))
noncomputable def tR09At (sA : R09Shelf) (p : List UInt8) : Option Int :=
 bd (Loop (tR09AtL1 sA p) 0) fun w =>
 match w with
 | .inl p3 =>
   some (-1)
 | .inr p4 =>
   some p4
noncomputable def tR09RightL1 (a : R09Shelf) (st : Int) : Option (Int ⊕ (Unit ⊕ Bool)) :=
 if st < (a.L.length : Int) then
 ix a.L st fun y =>
 bd (
   bd (tR08Right y.Path) fun rA =>
   if !rA then
   some true
   else
   if (1000 : Int) < (y.Value.length : Int) then
   some true
   else
   if y.Version < 0 then
   some true
   else
   if (1000000000 : Int) < y.Version then
   some true
   else
   if y.Owner < 0 then
   some true
   else
   if (0 : Int) < st then
   ix a.L (IntKind.wrap .i64 (st - 1)) fun y1 =>
   bd (tR08Ahead y1.Path y.Path) fun rA1 =>
   some (!rA1)
   else
   some false : Option Bool) fun w2 =>
 if w2 then
 some (.inr (.inr false))
 else
 bd (tR08Parent y.Path) fun rA2 =>
 if !decide (rA2.2 = 0) then
 if !decide (y.Owner = 0) then
 some (.inr (.inr false))
 else
 some (.inl (IntKind.wrap .i64 (st + 1)))
 else
 bd (tR09At a rA2.1) fun rA3 =>
 bd (
   if rA3 < 0 then
   some true
   else
   ix a.L rA3 fun y2 =>
   some (!decide (y2.Owner = 0)) : Option Bool) fun w3 =>
 if w3 then
 some (.inr (.inr false))
 else
 some (.inl (IntKind.wrap .i64 (st + 1)))
 else
 some (.inr (.inl ()))
noncomputable def tR09Right (a : R09Shelf) : Option Bool :=
 bd (
   if (a.L.length : Int) < 1 then
   some true
   else
   some (decide ((200 : Int) < (a.L.length : Int))) : Option Bool) fun w =>
 if w then
 some false
 else
 bd (Loop (tR09RightL1 a) 0) fun w1 =>
 match w1 with
 | .inl p1 =>
   bd (tR09At a ([47] : List UInt8)) fun rA4 =>
   some (decide (rA4 = 0))
 | .inr p2 =>
   some p2
noncomputable def tL09PlainL1 (sA : ShelfShelf) (st : (List R09Node) × Int) : Option (((List R09Node) × Int) ⊕ (List R09Node)) :=
 if st.2 < (sA.L.length : Int) then
 ix sA.L st.2 fun y =>
 if (st.1.length + ([(⟨y.Path, y.Value, y.Version, y.Owner⟩ : R09Node)] : List R09Node).length) * 48 ≤ 2 ^ 46 then
 some (.inl (st.1 ++ ([(⟨y.Path, y.Value, y.Version, y.Owner⟩ : R09Node)] : List R09Node), IntKind.wrap .i64 (st.2 + 1)))
 else none
 else
 some (.inr st.1)
noncomputable def tL09Plain (sA : ShelfShelf) : Option R09Shelf :=
 bd (Loop (tL09PlainL1 sA) (([] : List R09Node), 0)) fun w =>
 some (⟨w⟩ : R09Shelf)
noncomputable def tSlicesEqualShelfNodeL1 (s1 : List ShelfNode) (s2 : List ShelfNode) (st : Int) : Option (Int ⊕ (Unit ⊕ Bool)) :=
 if st < (s1.length : Int) then
 ix s1 st fun y =>
 ix s2 st fun y1 =>
 if !((decide (y.Path = y1.Path)) && ((decide (y.Value = y1.Value)) && ((decide (y.Version = y1.Version)) && (decide (y.Owner = y1.Owner))))) then
 some (.inr (.inr false))
 else
 some (.inl (IntKind.wrap .i64 (st + 1)))
 else
 some (.inr (.inl ()))
noncomputable def tSlicesEqualShelfNode (s1 : List ShelfNode) (s2 : List ShelfNode) : Option Bool :=
 if !decide ((s1.length : Int) = (s2.length : Int)) then
 some false
 else
 bd (Loop (tSlicesEqualShelfNodeL1 s1 s2) 0) fun w =>
 match w with
 | .inl p1 =>
   some true
 | .inr p2 =>
   some p2
noncomputable def tShelfSame (a : ShelfShelf) (b : ShelfShelf) : Option Bool :=
 bd (tSlicesEqualShelfNode a.L b.L) fun rA =>
 some rA
noncomputable def tR09SameL1 (a : R09Shelf) (b : R09Shelf) (st : Int) : Option (Int ⊕ (Unit ⊕ Bool)) :=
 if st < (a.L.length : Int) then
 ix a.L st fun y =>
 ix b.L st fun y1 =>
 if !((decide (y.Path = y1.Path)) && ((decide (y.Value = y1.Value)) && ((decide (y.Version = y1.Version)) && (decide (y.Owner = y1.Owner))))) then
 some (.inr (.inr false))
 else
 some (.inl (IntKind.wrap .i64 (st + 1)))
 else
 some (.inr (.inl ()))
noncomputable def tR09Same (a : R09Shelf) (b : R09Shelf) : Option Bool :=
 if !decide ((a.L.length : Int) = (b.L.length : Int)) then
 some false
 else
 bd (Loop (tR09SameL1 a b) 0) fun w =>
 match w with
 | .inl p1 =>
   some true
 | .inr p2 =>
   some p2
noncomputable def tR09New : Option R09Shelf :=
 some (⟨([(⟨([47] : List UInt8), ([] : List UInt8), 0, 0⟩ : R09Node)] : List R09Node)⟩ : R09Shelf)
noncomputable def tL09ShelfMay (sA : ShelfShelf) (t : ShelfShelf) : Option Bool :=
 bd (
   bd (tL09Few sA) fun rA =>
   if !rA then
   some true
   else
   bd (tL09Few t) fun rA1 =>
   some (!rA1) : Option Bool) fun w =>
 if w then
 bd (tL09Alive) fun rA2 =>
 some rA2
 else
 bd (
   bd (tL09Alive) fun rA3 =>
   if rA3 then
   bd (tShelfRight sA) fun rA4 =>
   bd (tL09Plain sA) fun rA5 =>
   bd (tR09Right rA5) fun rA6 =>
   if rA4 = rA6 then
   bd (tShelfSame sA t) fun rA7 =>
   bd (tL09Plain sA) fun rA8 =>
   bd (tL09Plain t) fun rA9 =>
   bd (tR09Same rA8 rA9) fun rA10 =>
   if rA7 = rA10 then
   bd (tShelfNew) fun rA11 =>
   bd (tL09Plain rA11) fun rA12 =>
   bd (tR09New) fun rA13 =>
   bd (tR09Same rA12 rA13) fun rA14 =>
   some rA14
   else
   some false
   else
   some false
   else
   some false : Option Bool) fun w1 =>
 some w1
noncomputable def tR09Get (sA : R09Shelf) (p : List UInt8) : Option (R09Node × Int) :=
 bd (tR08Right p) fun rA =>
 if !rA then
 some ((⟨([] : List UInt8), ([] : List UInt8), 0, 0⟩ : R09Node), 13)
 else
 bd (tR09At sA p) fun rA1 =>
 if rA1 < 0 then
 some ((⟨([] : List UInt8), ([] : List UInt8), 0, 0⟩ : R09Node), 6)
 else
 ix sA.L rA1 fun y =>
 some (y, 0)
noncomputable def tShelfListL1 (a : ShelfShelf) (a1 : List UInt8) (rA : Int × Int) (rA1 : (List (List UInt8)) × Int) (st : (List (List UInt8)) × Int) : Option (((List (List UInt8)) × Int) ⊕ (List (List UInt8))) :=
 if st.2 < ((List.drop (Int.toNat (IntKind.wrap .i64 (rA.1 + 1))) (List.take (Int.toNat (a.L.length : Int)) a.L)).length : Int) then
 ix (List.drop (Int.toNat (IntKind.wrap .i64 (rA.1 + 1))) (List.take (Int.toNat (a.L.length : Int)) a.L)) st.2 fun y =>
 bd (tPathBelow a1 y.Path) fun rA2 =>
 if !rA2 then
 some (.inr st.1)
 else
 bd (tPathNames y.Path) fun rA3 =>
 bd (
   if (rA3.1.length : Int) = (IntKind.wrap .i64 ((rA1.1.length : Int) + 1)) then
   ix rA3.1 (rA1.1.length : Int) fun y1 =>
   if (st.1.length + ([y1] : List (List UInt8)).length) * 16 ≤ 2 ^ 46 then
   some (st.1 ++ ([y1] : List (List UInt8)))
   else none
   else
   some st.1 : Option (List (List UInt8))) fun w1 =>
 some (.inl (w1, IntKind.wrap .i64 (st.2 + 1)))
 else
 some (.inr st.1)
noncomputable def tShelfList (a : ShelfShelf) (a1 : List UInt8) : Option ((List (List UInt8)) × Int) :=
 bd (tShelfShelfFind a a1) fun rA =>
 if !decide (rA.2 = 0) then
 some (([] : List (List UInt8)), rA.2)
 else
 bd (tPathNames a1) fun rA1 =>
 if (0 : Int) ≤ (IntKind.wrap .i64 (rA.1 + 1)) ∧ (IntKind.wrap .i64 (rA.1 + 1)) ≤ (a.L.length : Int) ∧ (a.L.length : Int) ≤ (a.L.length : Int) then
 bd (Loop (tShelfListL1 a a1 rA rA1) (([] : List (List UInt8)), 0)) fun w =>
 some (w, 0)
 else none
noncomputable def tR09KidsL1 (sA : R09Shelf) (p : List UInt8) (st : (List (List UInt8)) × Int) : Option (((List (List UInt8)) × Int) ⊕ (List (List UInt8))) :=
 if st.2 < (sA.L.length : Int) then
 ix sA.L st.2 fun y =>
 bd (tR08Parent y.Path) fun rA =>
 bd (
   if rA.2 = 0 then
   some (decide (rA.1 = p))
   else
   some false : Option Bool) fun w1 =>
 bd (
   if w1 then
   ix sA.L st.2 fun y1 =>
   bd (tR08Names y1.Path) fun rA1 =>
   ix rA1.1 (IntKind.wrap .i64 ((rA1.1.length : Int) - 1)) fun y2 =>
   if (st.1.length + ([y2] : List (List UInt8)).length) * 16 ≤ 2 ^ 46 then
   some (st.1 ++ ([y2] : List (List UInt8)))
   else none
   else
   some st.1 : Option (List (List UInt8))) fun w2 =>
 some (.inl (w2, IntKind.wrap .i64 (st.2 + 1)))
 else
 some (.inr st.1)
noncomputable def tR09Kids (sA : R09Shelf) (p : List UInt8) : Option (List (List UInt8)) :=
 bd (Loop (tR09KidsL1 sA p) (([] : List (List UInt8)), 0)) fun w =>
 some w
noncomputable def tR09List (sA : R09Shelf) (p : List UInt8) : Option ((List (List UInt8)) × Int) :=
 bd (tR09Get sA p) fun rA =>
 if !decide (rA.2 = 0) then
 some (([] : List (List UInt8)), rA.2)
 else
 bd (tR09Kids sA p) fun rA1 =>
 some (rA1, 0)
noncomputable def tL09ShelfAsks (a : ShelfShelf) (a1 : List UInt8) : Option Bool :=
 bd (
   bd (tL09Few a) fun rA =>
   if !rA then
   some true
   else
   bd (tL09Plain a) fun rA1 =>
   bd (tR09Right rA1) fun rA2 =>
   if !rA2 then
   some true
   else
   some (decide ((1100 : Int) < (a1.length : Int))) : Option Bool) fun w =>
 if w then
 bd (tL09Alive) fun rA3 =>
 some rA3
 else
 bd (tShelfGet a a1) fun rA4 =>
 bd (tL09Plain a) fun rA5 =>
 bd (tR09Get rA5 a1) fun rA6 =>
 bd (tShelfList a a1) fun rA7 =>
 bd (tL09Plain a) fun rA8 =>
 bd (tR09List rA8 a1) fun rA9 =>
 bd (
   bd (tL09Alive) fun rA10 =>
   if rA10 then
   if ((decide (rA4.1.Path = rA6.1.Path)) && ((decide (rA4.1.Value = rA6.1.Value)) && ((decide (rA4.1.Version = rA6.1.Version)) && (decide (rA4.1.Owner = rA6.1.Owner))))) then
   if rA4.2 = rA6.2 then
   bd (tR01Strings rA7.1 rA9.1) fun rA11 =>
   if rA11 then
   some (decide (rA7.2 = rA9.2))
   else
   some false
   else
   some false
   else
   some false
   else
   some false : Option Bool) fun w1 =>
 some w1
noncomputable def tShelfDropL1 (sA : ShelfShelf) (owner : Int) (st : (List (List UInt8)) × (List ShelfNode) × Int) : Option (((List (List UInt8)) × (List ShelfNode) × Int) ⊕ ((List (List UInt8)) × (List ShelfNode))) :=
 if st.2.2 < (sA.L.length : Int) then
 ix sA.L st.2.2 fun y =>
 bd (
   if (0 : Int) < owner then
   some (decide (y.Owner = owner))
   else
   some false : Option Bool) fun w1 =>
 if w1 then
 if (st.1.length + ([y.Path] : List (List UInt8)).length) * 16 ≤ 2 ^ 46 then
 some (.inl (st.1 ++ ([y.Path] : List (List UInt8)), st.2.1, IntKind.wrap .i64 (st.2.2 + 1)))
 else none
 else
 if (st.2.1.length + ([y] : List ShelfNode).length) * 48 ≤ 2 ^ 46 then
 some (.inl (st.1, st.2.1 ++ ([y] : List ShelfNode), IntKind.wrap .i64 (st.2.2 + 1)))
 else none
 else
 some (.inr (st.1, st.2.1))
noncomputable def tShelfDrop (sA : ShelfShelf) (owner : Int) : Option (ShelfShelf × (List (List UInt8))) :=
 bd (Loop (tShelfDropL1 sA owner) (([] : List (List UInt8)), ([] : List ShelfNode), 0)) fun w =>
 some ((⟨w.2⟩ : ShelfShelf), w.1)
noncomputable def tL09ShelfDropsL1 (a : ShelfShelf) (a1 : Int) (rA4 : ShelfShelf × (List (List UInt8))) (st : Int × Int) : Option ((Int × Int) ⊕ (Unit ⊕ Bool)) :=
 if st.2 < (a.L.length : Int) then
 ix a.L st.2 fun y =>
 bd (tShelfGet rA4.1 y.Path) fun rA7 =>
 bd (
   if a1 ≤ 0 then
   some (!(decide ((decide (rA7.2 = 0)) = true)))
   else
   some (!(decide ((decide (rA7.2 = 0)) = (!decide (y.Owner = a1))))) : Option Bool) fun w3 =>
 if w3 then
 some (.inr (.inr false))
 else
 bd (
   if !decide (rA7.2 = 0) then
   bd (
     if (rA4.2.length : Int) ≤ st.1 then
     some true
     else
     ix rA4.2 st.1 fun y1 =>
     some (!decide (y1 = y.Path)) : Option Bool) fun w5 =>
   if w5 then
   some (.inl false)
   else
   bd (tShelfList a y.Path) fun rA8 =>
   if (0 : Int) < (rA8.1.length : Int) then
   some (.inl false)
   else
   some (.inr (IntKind.wrap .i64 (st.1 + 1)))
   else
   some (.inr st.1) : Option (Bool ⊕ Int)) fun w4 =>
 match w4 with
 | .inl p2 =>
   some (.inr (.inr p2))
 | .inr p3 =>
   some (.inl (p3, IntKind.wrap .i64 (st.2 + 1)))
 else
 some (.inr (.inl ()))
noncomputable def tL09ShelfDrops (a : ShelfShelf) (a1 : Int) : Option Bool :=
 bd (
   bd (tL09Few a) fun rA =>
   if !rA then
   some true
   else
   bd (tL09Plain a) fun rA1 =>
   bd (tR09Right rA1) fun rA2 =>
   some (!rA2) : Option Bool) fun w =>
 if w then
 bd (tL09Alive) fun rA3 =>
 some rA3
 else
 bd (tShelfDrop a a1) fun rA4 =>
 bd (
   if !decide ((IntKind.wrap .i64 ((rA4.1.L.length : Int) + (rA4.2.length : Int))) = (a.L.length : Int)) then
   some true
   else
   bd (tL09Plain rA4.1) fun rA5 =>
   bd (tR09Right rA5) fun rA6 =>
   some (!rA6) : Option Bool) fun w1 =>
 if w1 then
 some false
 else
 bd (Loop (tL09ShelfDropsL1 a a1 rA4) (0, 0)) fun w2 =>
 match w2 with
 | .inl p4 =>
   bd (tL09Alive) fun rA9 =>
   some rA9
 | .inr p5 =>
   some p5
noncomputable def tL09ShelfKidsL1 (a : ShelfShelf) (a1 : List UInt8) (st : Int × Int) : Option ((Int × Int) ⊕ Int) :=
 if st.2 < (a.L.length : Int) then
 ix a.L st.2 fun y =>
 bd (tPathParent y.Path) fun rA7 =>
 bd (
   if rA7.2 = 0 then
   some (decide (rA7.1 = a1))
   else
   some false : Option Bool) fun w3 =>
 bd (
   if w3 then
   some (IntKind.wrap .i64 (st.1 + 1))
   else
   some st.1 : Option Int) fun w4 =>
 some (.inl (w4, IntKind.wrap .i64 (st.2 + 1)))
 else
 some (.inr st.1)
noncomputable def tL09ShelfKidsL2 (a : ShelfShelf) (a1 : List UInt8) (rA4 : (List (List UInt8)) × Int) (st1 : Int) : Option (Int ⊕ (Unit ⊕ Bool)) :=
 if st1 < (rA4.1.length : Int) then
 ix rA4.1 st1 fun y1 =>
 bd (tPathJoin a1 y1) fun rA8 =>
 bd (tShelfGet a rA8.1) fun rA9 =>
 bd (
   if !decide (rA8.2 = 0) then
   some true
   else
   if !decide (rA9.2 = 0) then
   some true
   else
   if (0 : Int) < st1 then
   ix rA4.1 (IntKind.wrap .i64 (st1 - 1)) fun y2 =>
   ix rA4.1 st1 fun y3 =>
   some (!Op.bytesLess y2 y3)
   else
   some false : Option Bool) fun w6 =>
 if w6 then
 some (.inr (.inr false))
 else
 some (.inl (IntKind.wrap .i64 (st1 + 1)))
 else
 some (.inr (.inl ()))
noncomputable def tL09ShelfKids (a : ShelfShelf) (a1 : List UInt8) : Option Bool :=
 bd (
   bd (tL09Few a) fun rA =>
   if !rA then
   some true
   else
   bd (tL09Plain a) fun rA1 =>
   bd (tR09Right rA1) fun rA2 =>
   if !rA2 then
   some true
   else
   some (decide ((1100 : Int) < (a1.length : Int))) : Option Bool) fun w =>
 if w then
 bd (tL09Alive) fun rA3 =>
 some rA3
 else
 bd (tShelfList a a1) fun rA4 =>
 bd (tShelfGet a a1) fun rA5 =>
 if !decide (rA4.2 = rA5.2) then
 some false
 else
 if !decide (rA4.2 = 0) then
 bd (
   bd (tL09Alive) fun rA6 =>
   if rA6 then
   some (decide ((rA4.1.length : Int) = 0))
   else
   some false : Option Bool) fun w1 =>
 some w1
 else
 bd (Loop (tL09ShelfKidsL1 a a1) (0, 0)) fun w2 =>
 bd (Loop (tL09ShelfKidsL2 a a1 rA4) 0) fun w5 =>
 match w5 with
 | .inl p3 =>
   bd (
     bd (tL09Alive) fun rA10 =>
     if rA10 then
     some (decide ((rA4.1.length : Int) = w2))
     else
     some false : Option Bool) fun w7 =>
   some w7
 | .inr p4 =>
   some p4
noncomputable def tShelfShelfVersioned (sA : ShelfShelf) (p : List UInt8) (version : Int) : Option (Int × Int) :=
 bd (tShelfShelfFind sA p) fun rA =>
 bd (
   if rA.2 = 0 then
   if !decide (version = (-1)) then
   ix sA.L rA.1 fun y =>
   some (!decide (version = y.Version))
   else
   some false
   else
   some false : Option Bool) fun w =>
 if w then
 some (rA.1, 8)
 else
 some (rA.1, rA.2)
noncomputable def tShelfSet (sA : ShelfShelf) (p : List UInt8) (value : List UInt8) (version : Int) : Option (ShelfShelf × Int) :=
 bd (tShelfShelfVersioned sA p version) fun rA =>
 if !decide (rA.2 = 0) then
 some (sA, rA.2)
 else
 if (1000 : Int) < (value.length : Int) then
 some (sA, 5)
 else
 ix sA.L rA.1 fun y =>
 if (1000000000 : Int) ≤ y.Version then
 some (sA, 9)
 else
 bd (tClone 48 sA.L) fun rA1 =>
 ix rA1 rA.1 fun y1 =>
 ix (rA1.set (Int.toNat rA.1) (⟨y1.Path, value, y1.Version, y1.Owner⟩ : ShelfNode)) rA.1 fun y2 =>
 ix (rA1.set (Int.toNat rA.1) (⟨y1.Path, value, y1.Version, y1.Owner⟩ : ShelfNode)) rA.1 fun y3 =>
 some ((⟨(rA1.set (Int.toNat rA.1) (⟨y1.Path, value, y1.Version, y1.Owner⟩ : ShelfNode)).set (Int.toNat rA.1) (⟨y3.Path, y3.Value, IntKind.wrap .i64 (y2.Version + 1), y3.Owner⟩ : ShelfNode)⟩ : ShelfShelf), 0)
noncomputable def tShelfDelete (sA : ShelfShelf) (p : List UInt8) (version : Int) : Option (ShelfShelf × Int) :=
 bd (tShelfShelfVersioned sA p version) fun rA =>
 if p = ([47] : List UInt8) then
 some (sA, 13)
 else
 if !decide (rA.2 = 0) then
 some (sA, rA.2)
 else
 bd (
   if (IntKind.wrap .i64 (rA.1 + 1)) < (sA.L.length : Int) then
   ix sA.L (IntKind.wrap .i64 (rA.1 + 1)) fun y =>
   bd (tPathBelow p y.Path) fun rA1 =>
   some rA1
   else
   some false : Option Bool) fun w =>
 if w then
 some (sA, 10)
 else
 bd (tClone 48 sA.L) fun rA2 =>
 bd (tDelete rA2 rA.1 (IntKind.wrap .i64 (rA.1 + 1))) fun rA3 =>
 some ((⟨rA3⟩ : ShelfShelf), 0)
noncomputable def tL09ShelfJust (a : ShelfShelf) (a1 : L09Change) (a2 : List UInt8) : Option Bool :=
 bd (
   bd (tL09Few a) fun rA =>
   if !rA then
   some true
   else
   bd (tL09Plain a) fun rA1 =>
   bd (tR09Right rA1) fun rA2 =>
   if !rA2 then
   some true
   else
   if (1100 : Int) < (a1.Path.length : Int) then
   some true
   else
   if (1100 : Int) < (a1.Value.length : Int) then
   some true
   else
   some (decide ((1100 : Int) < (a2.length : Int))) : Option Bool) fun w =>
 if w then
 bd (tL09Alive) fun rA3 =>
 some rA3
 else
 bd (tShelfGet a a2) fun rA4 =>
 bd (tShelfCreate a a1.Path a1.Value a1.Owner) fun rA5 =>
 bd (tShelfSet a a1.Path a1.Value a1.Version) fun rA6 =>
 bd (tShelfDelete a a1.Path a1.Version) fun rA7 =>
 bd (
   bd (tL09Plain rA5.1) fun rA8 =>
   bd (tR09Right rA8) fun rA9 =>
   if !rA9 then
   some true
   else
   bd (tL09Plain rA6.1) fun rA10 =>
   bd (tR09Right rA10) fun rA11 =>
   if !rA11 then
   some true
   else
   bd (tL09Plain rA7.1) fun rA12 =>
   bd (tR09Right rA12) fun rA13 =>
   some (!rA13) : Option Bool) fun w1 =>
 if w1 then
 some false
 else
 if !decide (a2 = a1.Path) then
 bd (tShelfGet rA5.1 a2) fun rA14 =>
 bd (tShelfGet rA6.1 a2) fun rA15 =>
 bd (tShelfGet rA7.1 a2) fun rA16 =>
 bd (
   bd (tL09Alive) fun rA17 =>
   if rA17 then
   if ((decide (rA14.1.Path = rA4.1.Path)) && ((decide (rA14.1.Value = rA4.1.Value)) && ((decide (rA14.1.Version = rA4.1.Version)) && (decide (rA14.1.Owner = rA4.1.Owner))))) then
   if ((decide (rA15.1.Path = rA4.1.Path)) && ((decide (rA15.1.Value = rA4.1.Value)) && ((decide (rA15.1.Version = rA4.1.Version)) && (decide (rA15.1.Owner = rA4.1.Owner))))) then
   if ((decide (rA16.1.Path = rA4.1.Path)) && ((decide (rA16.1.Value = rA4.1.Value)) && ((decide (rA16.1.Version = rA4.1.Version)) && (decide (rA16.1.Owner = rA4.1.Owner))))) then
   if rA14.2 = rA4.2 then
   if rA15.2 = rA4.2 then
   some (decide (rA16.2 = rA4.2))
   else
   some false
   else
   some false
   else
   some false
   else
   some false
   else
   some false
   else
   some false : Option Bool) fun w2 =>
 some w2
 else
 bd (tShelfGet rA5.1 a2) fun rA18 =>
 bd (tShelfGet rA6.1 a2) fun rA19 =>
 bd (tShelfGet rA7.1 a2) fun rA20 =>
 bd (
   if !decide (rA5.2 = 0) then
   some true
   else
   if rA18.2 = 0 then
   some ((decide (rA18.1.Path = a1.Path)) && ((decide (rA18.1.Value = a1.Value)) && ((decide (rA18.1.Version = 0)) && (decide (rA18.1.Owner = a1.Owner)))))
   else
   some false : Option Bool) fun w3 =>
 bd (
   if !decide (rA6.2 = 0) then
   some true
   else
   if rA19.2 = 0 then
   some ((decide (rA19.1.Path = a1.Path)) && ((decide (rA19.1.Value = a1.Value)) && ((decide (rA19.1.Version = (IntKind.wrap .i64 (rA4.1.Version + 1)))) && (decide (rA19.1.Owner = rA4.1.Owner)))))
   else
   some false : Option Bool) fun w4 =>
 bd (
   bd (tL09Alive) fun rA21 =>
   if rA21 then
   if w3 then
   if w4 then
   if !decide (rA7.2 = 0) then
   if !decide (rA5.2 = 0) then
   some true
   else
   some (decide (rA4.2 = 6))
   else
   if rA20.2 = 6 then
   if !decide (rA5.2 = 0) then
   some true
   else
   some (decide (rA4.2 = 6))
   else
   some false
   else
   some false
   else
   some false
   else
   some false : Option Bool) fun w5 =>
 some w5
noncomputable def tR09CreateL1 (a : R09Shelf) (a1 : List UInt8) (a2 : List UInt8) (a3 : Int) (st : (List R09Node) × Bool × Int) : Option (((List R09Node) × Bool × Int) ⊕ ((List R09Node) × Bool)) :=
 if st.2.2 < (a.L.length : Int) then
 bd (
   if !st.2.1 then
   ix a.L st.2.2 fun y1 =>
   bd (tR08Ahead a1 y1.Path) fun rA4 =>
   some rA4
   else
   some false : Option Bool) fun w1 =>
 bd (
   if w1 then
   if (st.1.length + ([(⟨a1, a2, 0, a3⟩ : R09Node)] : List R09Node).length) * 48 ≤ 2 ^ 46 then
   some (st.1 ++ ([(⟨a1, a2, 0, a3⟩ : R09Node)] : List R09Node), true)
   else none
   else
   some (st.1, st.2.1) : Option ((List R09Node) × Bool)) fun w2 =>
 ix a.L st.2.2 fun y2 =>
 if (w2.1.length + ([y2] : List R09Node).length) * 48 ≤ 2 ^ 46 then
 some (.inl (w2.1 ++ ([y2] : List R09Node), w2.2, IntKind.wrap .i64 (st.2.2 + 1)))
 else none
 else
 some (.inr (st.1, st.2.1))
noncomputable def tR09Create (a : R09Shelf) (a1 : List UInt8) (a2 : List UInt8) (a3 : Int) : Option (R09Shelf × Int) :=
 bd (tR08Right a1) fun rA =>
 if !rA then
 some (a, 13)
 else
 bd (tR09At a a1) fun rA1 =>
 if (0 : Int) ≤ rA1 then
 some (a, 7)
 else
 bd (tR08Parent a1) fun rA2 =>
 bd (tR09At a rA2.1) fun rA3 =>
 if rA3 < 0 then
 some (a, 6)
 else
 ix a.L rA3 fun y =>
 if !decide (y.Owner = 0) then
 some (a, 10)
 else
 if (1000 : Int) < (a2.length : Int) then
 some (a, 5)
 else
 if a3 < 0 then
 some (a, 1)
 else
 if (200 : Int) ≤ (a.L.length : Int) then
 some (a, 9)
 else
 bd (Loop (tR09CreateL1 a a1 a2 a3) (([] : List R09Node), false, 0)) fun w =>
 bd (
   if !w.2 then
   if (w.1.length + ([(⟨a1, a2, 0, a3⟩ : R09Node)] : List R09Node).length) * 48 ≤ 2 ^ 46 then
   some (w.1 ++ ([(⟨a1, a2, 0, a3⟩ : R09Node)] : List R09Node))
   else none
   else
   some w.1 : Option (List R09Node)) fun w3 =>
 some ((⟨w3⟩ : R09Shelf), 0)
noncomputable def tR09Set (sA : R09Shelf) (p : List UInt8) (value : List UInt8) (version : Int) : Option (R09Shelf × Int) :=
 bd (tR09Get sA p) fun rA =>
 if !decide (rA.2 = 0) then
 some (sA, rA.2)
 else
 bd (
   if !decide (version = (-1)) then
   some (!decide (version = rA.1.Version))
   else
   some false : Option Bool) fun w =>
 if w then
 some (sA, 8)
 else
 if (1000 : Int) < (value.length : Int) then
 some (sA, 5)
 else
 if rA.1.Version = 1000000000 then
 some (sA, 9)
 else
 if (([] : List R09Node).length + sA.L.length) * 48 ≤ 2 ^ 46 then
 bd (tR09At sA p) fun rA1 =>
 ix (([] : List R09Node) ++ sA.L) rA1 fun y =>
 some ((⟨(([] : List R09Node) ++ sA.L).set (Int.toNat rA1) (⟨p, value, IntKind.wrap .i64 (rA.1.Version + 1), rA.1.Owner⟩ : R09Node)⟩ : R09Shelf), 0)
 else none
noncomputable def tR09Delete (sA : R09Shelf) (p : List UInt8) (version : Int) : Option (R09Shelf × Int) :=
 bd (tR09Get sA p) fun rA =>
 if !decide (rA.2 = 0) then
 some (sA, rA.2)
 else
 if p = ([47] : List UInt8) then
 some (sA, 13)
 else
 bd (
   if !decide (version = (-1)) then
   some (!decide (version = rA.1.Version))
   else
   some false : Option Bool) fun w =>
 if w then
 some (sA, 8)
 else
 bd (tR09Kids sA p) fun rA1 =>
 if (0 : Int) < (rA1.length : Int) then
 some (sA, 10)
 else
 bd (tR09At sA p) fun rA2 =>
 if (0 : Int) ≤ 0 ∧ (0 : Int) ≤ rA2 ∧ rA2 ≤ (sA.L.length : Int) then
 if (([] : List R09Node).length + (List.drop (Int.toNat 0) (List.take (Int.toNat rA2) sA.L)).length) * 48 ≤ 2 ^ 46 then
 if (0 : Int) ≤ (IntKind.wrap .i64 (rA2 + 1)) ∧ (IntKind.wrap .i64 (rA2 + 1)) ≤ (sA.L.length : Int) ∧ (sA.L.length : Int) ≤ (sA.L.length : Int) then
 if ((([] : List R09Node) ++ (List.drop (Int.toNat 0) (List.take (Int.toNat rA2) sA.L))).length + (List.drop (Int.toNat (IntKind.wrap .i64 (rA2 + 1))) (List.take (Int.toNat (sA.L.length : Int)) sA.L)).length) * 48 ≤ 2 ^ 46 then
 some ((⟨(([] : List R09Node) ++ (List.drop (Int.toNat 0) (List.take (Int.toNat rA2) sA.L))) ++ (List.drop (Int.toNat (IntKind.wrap .i64 (rA2 + 1))) (List.take (Int.toNat (sA.L.length : Int)) sA.L))⟩ : R09Shelf), 0)
 else none
 else none
 else none
 else none
noncomputable def tR09DropL1 (sA : R09Shelf) (owner : Int) (st : (List R09Node) × (List (List UInt8)) × Int) : Option (((List R09Node) × (List (List UInt8)) × Int) ⊕ ((List R09Node) × (List (List UInt8)))) :=
 if st.2.2 < (sA.L.length : Int) then
 bd (
   if (0 : Int) < owner then
   ix sA.L st.2.2 fun y =>
   some (decide (y.Owner = owner))
   else
   some false : Option Bool) fun w1 =>
 bd (
   if w1 then
   ix sA.L st.2.2 fun y1 =>
   if (st.2.1.length + ([y1.Path] : List (List UInt8)).length) * 16 ≤ 2 ^ 46 then
   some (st.1, st.2.1 ++ ([y1.Path] : List (List UInt8)))
   else none
   else
   ix sA.L st.2.2 fun y2 =>
   if (st.1.length + ([y2] : List R09Node).length) * 48 ≤ 2 ^ 46 then
   some (st.1 ++ ([y2] : List R09Node), st.2.1)
   else none : Option ((List R09Node) × (List (List UInt8)))) fun w2 =>
 some (.inl (w2.1, w2.2, IntKind.wrap .i64 (st.2.2 + 1)))
 else
 some (.inr (st.1, st.2.1))
noncomputable def tR09Drop (sA : R09Shelf) (owner : Int) : Option (R09Shelf × (List (List UInt8))) :=
 bd (Loop (tR09DropL1 sA owner) (([] : List R09Node), ([] : List (List UInt8)), 0)) fun w =>
 some ((⟨w.1⟩ : R09Shelf), w.2)
noncomputable def tL09ShelfChanges (a : ShelfShelf) (a1 : L09Change) : Option Bool :=
 bd (
   bd (tL09Few a) fun rA =>
   if !rA then
   some true
   else
   bd (tL09Plain a) fun rA1 =>
   bd (tR09Right rA1) fun rA2 =>
   if !rA2 then
   some true
   else
   if (1100 : Int) < (a1.Path.length : Int) then
   some true
   else
   some (decide ((1100 : Int) < (a1.Value.length : Int))) : Option Bool) fun w =>
 if w then
 bd (tL09Alive) fun rA3 =>
 some rA3
 else
 bd (tL09Plain a) fun rA4 =>
 bd (tShelfCreate a a1.Path a1.Value a1.Owner) fun rA5 =>
 bd (tR09Create rA4 a1.Path a1.Value a1.Owner) fun rA6 =>
 bd (tShelfSet a a1.Path a1.Value a1.Version) fun rA7 =>
 bd (tR09Set rA4 a1.Path a1.Value a1.Version) fun rA8 =>
 bd (
   bd (tL09Plain rA5.1) fun rA9 =>
   bd (tR09Same rA9 rA6.1) fun rA10 =>
   if !rA10 then
   some true
   else
   if !decide (rA5.2 = rA6.2) then
   some true
   else
   bd (tL09Plain rA7.1) fun rA11 =>
   bd (tR09Same rA11 rA8.1) fun rA12 =>
   if !rA12 then
   some true
   else
   some (!decide (rA7.2 = rA8.2)) : Option Bool) fun w1 =>
 if w1 then
 some false
 else
 bd (tShelfDelete a a1.Path a1.Version) fun rA13 =>
 bd (tR09Delete rA4 a1.Path a1.Version) fun rA14 =>
 bd (tShelfDrop a a1.Owner) fun rA15 =>
 bd (tR09Drop rA4 a1.Owner) fun rA16 =>
 bd (
   bd (tL09Alive) fun rA17 =>
   if rA17 then
   bd (tL09Plain rA13.1) fun rA18 =>
   bd (tR09Same rA18 rA14.1) fun rA19 =>
   if rA19 then
   if rA13.2 = rA14.2 then
   bd (tL09Plain rA15.1) fun rA20 =>
   bd (tR09Same rA20 rA16.1) fun rA21 =>
   if rA21 then
   bd (tR01Strings rA15.2 rA16.2) fun rA22 =>
   if rA22 then
   bd (tL09Plain a) fun rA23 =>
   bd (tR09Same rA23 rA4) fun rA24 =>
   some rA24
   else
   some false
   else
   some false
   else
   some false
   else
   some false
   else
   some false : Option Bool) fun w2 =>
 some w2
end Dn.S
