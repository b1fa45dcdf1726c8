import Derived.Test.YteakdlhhamgfbaaDoorDnYT
import Derived.Test.YteakdlhhamgfbaaDoorDnD
/-
  The functions, with a bound on their rounds. Conditions: none.
-/
open Go Dn
set_option linter.unusedVariables false
set_option linter.unusedSimpArgs false
set_option maxRecDepth 100000
namespace Dn.S
def cStringsliteHasPrefix (fuel : Nat) (sA : List UInt8) (prefixA : List UInt8) : Option Bool :=
 bd (
   if (prefixA.length : Int) ≤ (sA.length : Int) then
   if (0 : Int) ≤ 0 ∧ (0 : Int) ≤ (prefixA.length : Int) ∧ (prefixA.length : Int) ≤ (sA.length : Int) then
   some (decide ((List.drop (Int.toNat 0) (List.take (Int.toNat (prefixA.length : Int)) sA)) = prefixA))
   else none
   else
   some false : Option Bool) fun w =>
 some w
theorem leStringsliteHasPrefix (fuel : Nat) (sA : List UInt8) (prefixA : List UInt8) : Le (cStringsliteHasPrefix fuel sA prefixA) (tStringsliteHasPrefix sA prefixA) := by
  unfold cStringsliteHasPrefix tStringsliteHasPrefix
  repeat' (first | exact Le.rfl' _ | refine Le.bd ?_ fun _ => ?_ | refine Le.ite ?_ ?_ | refine Le.ix fun _ => ?_ | refine Le.loop fun _ => ?_ | refine Le.sum (fun _ => ?_) (fun _ => ?_) | intro _)
def cStringsliteCutPrefix (fuel : Nat) (sA : List UInt8) (prefixA : List UInt8) : Option ((List UInt8) × Bool) :=
 bd ((cStringsliteHasPrefix fuel) sA prefixA) fun rA =>
 if !rA then
 some (sA, false)
 else
 if (0 : Int) ≤ (prefixA.length : Int) ∧ (prefixA.length : Int) ≤ (sA.length : Int) ∧ (sA.length : Int) ≤ (sA.length : Int) then
 some (List.drop (Int.toNat (prefixA.length : Int)) (List.take (Int.toNat (sA.length : Int)) sA), true)
 else none
theorem leStringsliteCutPrefix (fuel : Nat) (sA : List UInt8) (prefixA : List UInt8) : Le (cStringsliteCutPrefix fuel sA prefixA) (tStringsliteCutPrefix sA prefixA) := by
  unfold cStringsliteCutPrefix tStringsliteCutPrefix
  repeat' (first | exact Le.rfl' _ | apply leStringsliteHasPrefix | refine Le.bd ?_ fun _ => ?_ | refine Le.ite ?_ ?_ | refine Le.ix fun _ => ?_ | refine Le.loop fun _ => ?_ | refine Le.sum (fun _ => ?_) (fun _ => ?_) | intro _)
def cStringsCutPrefix (fuel : Nat) (sA : List UInt8) (prefixA : List UInt8) : Option ((List UInt8) × Bool) :=
 bd ((cStringsliteCutPrefix fuel) sA prefixA) fun rA =>
 some (rA.1, rA.2)
theorem leStringsCutPrefix (fuel : Nat) (sA : List UInt8) (prefixA : List UInt8) : Le (cStringsCutPrefix fuel sA prefixA) (tStringsCutPrefix sA prefixA) := by
  unfold cStringsCutPrefix tStringsCutPrefix
  repeat' (first | exact Le.rfl' _ | apply leStringsliteHasPrefix | apply leStringsliteCutPrefix | refine Le.bd ?_ fun _ => ?_ | refine Le.ite ?_ ?_ | refine Le.ix fun _ => ?_ | refine Le.loop fun _ => ?_ | refine Le.sum (fun _ => ?_) (fun _ => ?_) | intro _)
def cPathIsNameF1 (fuel : Nat) (c : Int) : Option Bool :=
 bd (tHasRune ([97, 98, 99, 100, 101, 102, 103, 104, 105, 106, 107, 108, 109, 110, 111, 112, 113, 114, 115, 116, 117, 118, 119, 120, 121, 122, 48, 49, 50, 51, 52, 53, 54, 55, 56, 57, 45, 95] : List UInt8) c) fun rA =>
 some (!rA)
theorem lePathIsNameF1 (fuel : Nat) (c : Int) : Le (cPathIsNameF1 fuel c) (tPathIsNameF1 c) := by
  unfold cPathIsNameF1 tPathIsNameF1
  repeat' (first | exact Le.rfl' _ | apply leStringsliteHasPrefix | apply leStringsliteCutPrefix | apply leStringsCutPrefix | refine Le.bd ?_ fun _ => ?_ | refine Le.ite ?_ ?_ | refine Le.ix fun _ => ?_ | refine Le.loop fun _ => ?_ | refine Le.sum (fun _ => ?_) (fun _ => ?_) | intro _)
def cStringsIndexInL1 (fuel : Nat) (f : Int → Option Bool) (truth : Bool) (st : (List MV)) : Option ((List MV) ⊕ (Unit ⊕ Int)) :=
 if itOk st then
 bd (f (itRune st)) fun rA =>
 if rA = truth then
 some (.inr (.inr (itPos st)))
 else
 some (.inl (itStep st))
 else
 some (.inr (.inl ()))
theorem leStringsIndexInL1 (fuel : Nat) (f fA : Int → Option Bool) (hf : ∀ u0, Le (f u0) (fA u0)) (truth : Bool) (st : (List MV)) : Le (cStringsIndexInL1 fuel f truth st) (tStringsIndexInL1 fA truth st) := by
  unfold cStringsIndexInL1 tStringsIndexInL1
  repeat' (first | exact Le.rfl' _ | apply leStringsliteHasPrefix | apply leStringsliteCutPrefix | apply leStringsCutPrefix | apply lePathIsNameF1 | exact hf _ _ _ | exact hf _ _ | exact hf _ | exact hf | refine Le.bd ?_ fun _ => ?_ | refine Le.ite ?_ ?_ | refine Le.ix fun _ => ?_ | refine Le.loop fun _ => ?_ | refine Le.sum (fun _ => ?_) (fun _ => ?_) | intro _)
def cStringsIndexIn (fuel : Nat) (sA : List UInt8) (f : Int → Option Bool) (truth : Bool) : Option Int :=
 bd (LoopC fuel ((cStringsIndexInL1 fuel) f truth) ([.s sA, .i .i64 0] : List MV)) fun w =>
 match w with
 | .inl p1 =>
   some (-1)
 | .inr p2 =>
   some p2
theorem leStringsIndexIn (fuel : Nat) (sA : List UInt8) (f fA : Int → Option Bool) (hf : ∀ u0, Le (f u0) (fA u0)) (truth : Bool) : Le (cStringsIndexIn fuel sA f truth) (tStringsIndexIn sA fA truth) := by
  unfold cStringsIndexIn tStringsIndexIn
  repeat' (first | exact Le.rfl' _ | apply leStringsliteHasPrefix | apply leStringsliteCutPrefix | apply leStringsCutPrefix | apply lePathIsNameF1 | apply leStringsIndexInL1 | exact hf _ _ _ | exact hf _ _ | exact hf _ | exact hf | refine Le.bd ?_ fun _ => ?_ | refine Le.ite ?_ ?_ | refine Le.ix fun _ => ?_ | refine Le.loop fun _ => ?_ | refine Le.sum (fun _ => ?_) (fun _ => ?_) | intro _)
def cStringsIndexFunc (fuel : Nat) (sA : List UInt8) (f : Int → Option Bool) : Option Int :=
 bd ((cStringsIndexIn fuel) sA f true) fun rA =>
 some rA
theorem leStringsIndexFunc (fuel : Nat) (sA : List UInt8) (f fA : Int → Option Bool) (hf : ∀ u0, Le (f u0) (fA u0)) : Le (cStringsIndexFunc fuel sA f) (tStringsIndexFunc sA fA) := by
  unfold cStringsIndexFunc tStringsIndexFunc
  repeat' (first | exact Le.rfl' _ | apply leStringsliteHasPrefix | apply leStringsliteCutPrefix | apply leStringsCutPrefix | apply lePathIsNameF1 | apply leStringsIndexIn | exact hf _ _ _ | exact hf _ _ | exact hf _ | exact hf | refine Le.bd ?_ fun _ => ?_ | refine Le.ite ?_ ?_ | refine Le.ix fun _ => ?_ | refine Le.loop fun _ => ?_ | refine Le.sum (fun _ => ?_) (fun _ => ?_) | intro _)
def cStringsContainsFunc (fuel : Nat) (sA : List UInt8) (f : Int → Option Bool) : Option Bool :=
 bd ((cStringsIndexFunc fuel) sA f) fun rA =>
 some (decide ((0 : Int) ≤ rA))
theorem leStringsContainsFunc (fuel : Nat) (sA : List UInt8) (f fA : Int → Option Bool) (hf : ∀ u0, Le (f u0) (fA u0)) : Le (cStringsContainsFunc fuel sA f) (tStringsContainsFunc sA fA) := by
  unfold cStringsContainsFunc tStringsContainsFunc
  repeat' (first | exact Le.rfl' _ | apply leStringsliteHasPrefix | apply leStringsliteCutPrefix | apply leStringsCutPrefix | apply lePathIsNameF1 | apply leStringsIndexIn | apply leStringsIndexFunc | exact hf _ _ _ | exact hf _ _ | exact hf _ | exact hf | refine Le.bd ?_ fun _ => ?_ | refine Le.ite ?_ ?_ | refine Le.ix fun _ => ?_ | refine Le.loop fun _ => ?_ | refine Le.sum (fun _ => ?_) (fun _ => ?_) | intro _)
def cPathIsName (fuel : Nat) (sA : List UInt8) : Option Bool :=
 bd (
   if !decide (sA = ([] : List UInt8)) then
   if (sA.length : Int) ≤ 30 then
   bd (tTrim sA ([97, 98, 99, 100, 101, 102, 103, 104, 105, 106, 107, 108, 109, 110, 111, 112, 113, 114, 115, 116, 117, 118, 119, 120, 121, 122, 48, 49, 50, 51, 52, 53, 54, 55, 56, 57, 45, 95] : List UInt8)) fun rA =>
   if rA = ([] : List UInt8) then
   bd ((cStringsContainsFunc fuel) sA (cPathIsNameF1 fuel)) fun rA1 =>
   some (!rA1)
   else
   some false
   else
   some false
   else
   some false : Option Bool) fun w =>
 some w
theorem lePathIsName (fuel : Nat) (sA : List UInt8) : Le (cPathIsName fuel sA) (tPathIsName sA) := by
  unfold cPathIsName tPathIsName
  repeat' (first | exact Le.rfl' _ | apply leStringsliteHasPrefix | apply leStringsliteCutPrefix | apply leStringsCutPrefix | apply lePathIsNameF1 | apply leStringsIndexIn | apply leStringsIndexFunc | apply leStringsContainsFunc | refine Le.bd ?_ fun _ => ?_ | refine Le.ite ?_ ?_ | refine Le.ix fun _ => ?_ | refine Le.loop fun _ => ?_ | refine Le.sum (fun _ => ?_) (fun _ => ?_) | intro _)
def cPathInnerF1 (fuel : Nat) (sA : List UInt8) : Option Bool :=
 bd ((cPathIsName fuel) sA) fun rA =>
 some (!rA)
theorem lePathInnerF1 (fuel : Nat) (sA : List UInt8) : Le (cPathInnerF1 fuel sA) (tPathInnerF1 sA) := by
  unfold cPathInnerF1 tPathInnerF1
  repeat' (first | exact Le.rfl' _ | apply leStringsliteHasPrefix | apply leStringsliteCutPrefix | apply leStringsCutPrefix | apply lePathIsNameF1 | apply leStringsIndexIn | apply leStringsIndexFunc | apply leStringsContainsFunc | apply lePathIsName | refine Le.bd ?_ fun _ => ?_ | refine Le.ite ?_ ?_ | refine Le.ix fun _ => ?_ | refine Le.loop fun _ => ?_ | refine Le.sum (fun _ => ?_) (fun _ => ?_) | intro _)
def cSlicesIndexFuncStringL1 (fuel : Nat) (sA : List (List UInt8)) (f : (List UInt8) → Option Bool) (st : Int) : Option (Int ⊕ (Unit ⊕ Int)) :=
 if st < (sA.length : Int) then
 ix sA st fun y =>
 bd (f y) fun rA =>
 if rA then
 some (.inr (.inr st))
 else
 some (.inl (IntKind.wrap .i64 (st + 1)))
 else
 some (.inr (.inl ()))
theorem leSlicesIndexFuncStringL1 (fuel : Nat) (sA : List (List UInt8)) (f fA : (List UInt8) → Option Bool) (hf : ∀ u0, Le (f u0) (fA u0)) (st : Int) : Le (cSlicesIndexFuncStringL1 fuel sA f st) (tSlicesIndexFuncStringL1 sA fA st) := by
  unfold cSlicesIndexFuncStringL1 tSlicesIndexFuncStringL1
  repeat' (first | exact Le.rfl' _ | apply leStringsliteHasPrefix | apply leStringsliteCutPrefix | apply leStringsCutPrefix | apply lePathIsNameF1 | apply leStringsIndexIn | apply leStringsIndexFunc | apply leStringsContainsFunc | apply lePathIsName | apply lePathInnerF1 | exact hf _ _ _ | exact hf _ _ | exact hf _ | exact hf | refine Le.bd ?_ fun _ => ?_ | refine Le.ite ?_ ?_ | refine Le.ix fun _ => ?_ | refine Le.loop fun _ => ?_ | refine Le.sum (fun _ => ?_) (fun _ => ?_) | intro _)
def cSlicesIndexFuncString (fuel : Nat) (sA : List (List UInt8)) (f : (List UInt8) → Option Bool) : Option Int :=
 bd (LoopC fuel ((cSlicesIndexFuncStringL1 fuel) sA f) 0) fun w =>
 match w with
 | .inl p1 =>
   some (-1)
 | .inr p2 =>
   some p2
theorem leSlicesIndexFuncString (fuel : Nat) (sA : List (List UInt8)) (f fA : (List UInt8) → Option Bool) (hf : ∀ u0, Le (f u0) (fA u0)) : Le (cSlicesIndexFuncString fuel sA f) (tSlicesIndexFuncString sA fA) := by
  unfold cSlicesIndexFuncString tSlicesIndexFuncString
  repeat' (first | exact Le.rfl' _ | apply leStringsliteHasPrefix | apply leStringsliteCutPrefix | apply leStringsCutPrefix | apply lePathIsNameF1 | apply leStringsIndexIn | apply leStringsIndexFunc | apply leStringsContainsFunc | apply lePathIsName | apply lePathInnerF1 | apply leSlicesIndexFuncStringL1 | exact hf _ _ _ | exact hf _ _ | exact hf _ | exact hf | refine Le.bd ?_ fun _ => ?_ | refine Le.ite ?_ ?_ | refine Le.ix fun _ => ?_ | refine Le.loop fun _ => ?_ | refine Le.sum (fun _ => ?_) (fun _ => ?_) | intro _)
def cSlicesContainsFuncString (fuel : Nat) (sA : List (List UInt8)) (f : (List UInt8) → Option Bool) : Option Bool :=
 bd ((cSlicesIndexFuncString fuel) sA f) fun rA =>
 some (decide ((0 : Int) ≤ rA))
theorem leSlicesContainsFuncString (fuel : Nat) (sA : List (List UInt8)) (f fA : (List UInt8) → Option Bool) (hf : ∀ u0, Le (f u0) (fA u0)) : Le (cSlicesContainsFuncString fuel sA f) (tSlicesContainsFuncString sA fA) := by
  unfold cSlicesContainsFuncString tSlicesContainsFuncString
  repeat' (first | exact Le.rfl' _ | apply leStringsliteHasPrefix | apply leStringsliteCutPrefix | apply leStringsCutPrefix | apply lePathIsNameF1 | apply leStringsIndexIn | apply leStringsIndexFunc | apply leStringsContainsFunc | apply lePathIsName | apply lePathInnerF1 | apply leSlicesIndexFuncString | exact hf _ _ _ | exact hf _ _ | exact hf _ | exact hf | refine Le.bd ?_ fun _ => ?_ | refine Le.ite ?_ ?_ | refine Le.ix fun _ => ?_ | refine Le.loop fun _ => ?_ | refine Le.sum (fun _ => ?_) (fun _ => ?_) | intro _)
def cPathInner (fuel : Nat) (p : List UInt8) : Option ((List (List UInt8)) × Bool) :=
 bd ((cStringsCutPrefix fuel) p ([47] : List UInt8)) fun rA =>
 bd (
   if !rA.2 then
   some true
   else
   some (decide ((100 : Int) < (p.length : Int))) : Option Bool) fun w =>
 if w then
 some (([] : List (List UInt8)), false)
 else
 if rA.1 = ([] : List UInt8) then
 some (([] : List (List UInt8)), true)
 else
 bd (tSplit rA.1 ([47] : List UInt8)) fun rA1 =>
 bd (
   if (rA1.length : Int) ≤ 8 then
   bd ((cSlicesContainsFuncString fuel) rA1 (cPathInnerF1 fuel)) fun rA2 =>
   some (rA1, !rA2, rA1)
   else
   some (rA1, false, rA1) : Option ((List (List UInt8)) × Bool × (List (List UInt8)))) fun w1 =>
 some (w1.2.2, w1.2.1)
theorem lePathInner (fuel : Nat) (p : List UInt8) : Le (cPathInner fuel p) (tPathInner p) := by
  unfold cPathInner tPathInner
  repeat' (first | exact Le.rfl' _ | apply leStringsliteHasPrefix | apply leStringsliteCutPrefix | apply leStringsCutPrefix | apply lePathIsNameF1 | apply leStringsIndexIn | apply leStringsIndexFunc | apply leStringsContainsFunc | apply lePathIsName | apply lePathInnerF1 | apply leSlicesIndexFuncString | apply leSlicesContainsFuncString | refine Le.bd ?_ fun _ => ?_ | refine Le.ite ?_ ?_ | refine Le.ix fun _ => ?_ | refine Le.loop fun _ => ?_ | refine Le.sum (fun _ => ?_) (fun _ => ?_) | intro _)
def cPathRight (fuel : Nat) (p : List UInt8) : Option Bool :=
 bd ((cPathInner fuel) p) fun rA =>
 some rA.2
theorem lePathRight (fuel : Nat) (p : List UInt8) : Le (cPathRight fuel p) (tPathRight p) := by
  unfold cPathRight tPathRight
  repeat' (first | exact Le.rfl' _ | apply leStringsliteHasPrefix | apply leStringsliteCutPrefix | apply leStringsCutPrefix | apply lePathIsNameF1 | apply leStringsIndexIn | apply leStringsIndexFunc | apply leStringsContainsFunc | apply lePathIsName | apply lePathInnerF1 | apply leSlicesIndexFuncString | apply leSlicesContainsFuncString | apply lePathInner | refine Le.bd ?_ fun _ => ?_ | refine Le.ite ?_ ?_ | refine Le.ix fun _ => ?_ | refine Le.loop fun _ => ?_ | refine Le.sum (fun _ => ?_) (fun _ => ?_) | intro _)
def cBytealgLastIndexByteStringL1 (fuel : Nat) (sA : List UInt8) (c : Int) (st : Int) : Option (Int ⊕ (Unit ⊕ Int)) :=
 if (0 : Int) ≤ st then
 if (0 : Int) ≤ st ∧ st < (sA.length : Int) then
 if ((sA.getD (Int.toNat st) 0).toNat : Int) = c then
 some (.inr (.inr st))
 else
 some (.inl (IntKind.wrap .i64 (st - 1)))
 else none
 else
 some (.inr (.inl ()))
theorem leBytealgLastIndexByteStringL1 (fuel : Nat) (sA : List UInt8) (c : Int) (st : Int) : Le (cBytealgLastIndexByteStringL1 fuel sA c st) (tBytealgLastIndexByteStringL1 sA c st) := by
  unfold cBytealgLastIndexByteStringL1 tBytealgLastIndexByteStringL1
  repeat' (first | exact Le.rfl' _ | apply leStringsliteHasPrefix | apply leStringsliteCutPrefix | apply leStringsCutPrefix | apply lePathIsNameF1 | apply leStringsIndexIn | apply leStringsIndexFunc | apply leStringsContainsFunc | apply lePathIsName | apply lePathInnerF1 | apply leSlicesIndexFuncString | apply leSlicesContainsFuncString | apply lePathInner | apply lePathRight | refine Le.bd ?_ fun _ => ?_ | refine Le.ite ?_ ?_ | refine Le.ix fun _ => ?_ | refine Le.loop fun _ => ?_ | refine Le.sum (fun _ => ?_) (fun _ => ?_) | intro _)
def cBytealgLastIndexByteString (fuel : Nat) (sA : List UInt8) (c : Int) : Option Int :=
 bd (LoopC fuel ((cBytealgLastIndexByteStringL1 fuel) sA c) (IntKind.wrap .i64 ((sA.length : Int) - 1))) fun w =>
 match w with
 | .inl p1 =>
   some (-1)
 | .inr p2 =>
   some p2
theorem leBytealgLastIndexByteString (fuel : Nat) (sA : List UInt8) (c : Int) : Le (cBytealgLastIndexByteString fuel sA c) (tBytealgLastIndexByteString sA c) := by
  unfold cBytealgLastIndexByteString tBytealgLastIndexByteString
  repeat' (first | exact Le.rfl' _ | apply leStringsliteHasPrefix | apply leStringsliteCutPrefix | apply leStringsCutPrefix | apply lePathIsNameF1 | apply leStringsIndexIn | apply leStringsIndexFunc | apply leStringsContainsFunc | apply lePathIsName | apply lePathInnerF1 | apply leSlicesIndexFuncString | apply leSlicesContainsFuncString | apply lePathInner | apply lePathRight | apply leBytealgLastIndexByteStringL1 | refine Le.bd ?_ fun _ => ?_ | refine Le.ite ?_ ?_ | refine Le.ix fun _ => ?_ | refine Le.loop fun _ => ?_ | refine Le.sum (fun _ => ?_) (fun _ => ?_) | intro _)
def cBytealgHashStrRevStringL1 (fuel : Nat) (sep : List UInt8) (st : Int × Int) : Option ((Int × Int) ⊕ Int) :=
 if (0 : Int) ≤ st.2 then
 if (0 : Int) ≤ st.2 ∧ st.2 < (sep.length : Int) then
 some (.inl (IntKind.wrap .u32 ((IntKind.wrap .u32 (st.1 * 16777619)) + (IntKind.wrap .u32 ((sep.getD (Int.toNat st.2) 0).toNat : Int))), IntKind.wrap .i64 (st.2 - 1)))
 else none
 else
 some (.inr st.1)
theorem leBytealgHashStrRevStringL1 (fuel : Nat) (sep : List UInt8) (st : Int × Int) : Le (cBytealgHashStrRevStringL1 fuel sep st) (tBytealgHashStrRevStringL1 sep st) := by
  unfold cBytealgHashStrRevStringL1 tBytealgHashStrRevStringL1
  repeat' (first | exact Le.rfl' _ | apply leStringsliteHasPrefix | apply leStringsliteCutPrefix | apply leStringsCutPrefix | apply lePathIsNameF1 | apply leStringsIndexIn | apply leStringsIndexFunc | apply leStringsContainsFunc | apply lePathIsName | apply lePathInnerF1 | apply leSlicesIndexFuncString | apply leSlicesContainsFuncString | apply lePathInner | apply lePathRight | apply leBytealgLastIndexByteString | refine Le.bd ?_ fun _ => ?_ | refine Le.ite ?_ ?_ | refine Le.ix fun _ => ?_ | refine Le.loop fun _ => ?_ | refine Le.sum (fun _ => ?_) (fun _ => ?_) | intro _)
def cBytealgHashStrRevStringL2 (fuel : Nat) (st1 : Int × Int × Int) : Option ((Int × Int × Int) ⊕ Int) :=
 if (0 : Int) < st1.2.2 then
 none
 else
 some (.inr st1.1)
theorem leBytealgHashStrRevStringL2 (fuel : Nat) (st1 : Int × Int × Int) : Le (cBytealgHashStrRevStringL2 fuel st1) (tBytealgHashStrRevStringL2 st1) := by
  unfold cBytealgHashStrRevStringL2 tBytealgHashStrRevStringL2
  repeat' (first | exact Le.rfl' _ | apply leStringsliteHasPrefix | apply leStringsliteCutPrefix | apply leStringsCutPrefix | apply lePathIsNameF1 | apply leStringsIndexIn | apply leStringsIndexFunc | apply leStringsContainsFunc | apply lePathIsName | apply lePathInnerF1 | apply leSlicesIndexFuncString | apply leSlicesContainsFuncString | apply lePathInner | apply lePathRight | apply leBytealgLastIndexByteString | apply leBytealgHashStrRevStringL1 | refine Le.bd ?_ fun _ => ?_ | refine Le.ite ?_ ?_ | refine Le.ix fun _ => ?_ | refine Le.loop fun _ => ?_ | refine Le.sum (fun _ => ?_) (fun _ => ?_) | intro _)
def cBytealgHashStrRevString (fuel : Nat) (sep : List UInt8) : Option (Int × Int) :=
 bd (LoopC fuel ((cBytealgHashStrRevStringL1 fuel) sep) (0, IntKind.wrap .i64 ((sep.length : Int) - 1))) fun w =>
 bd (LoopC fuel (cBytealgHashStrRevStringL2 fuel) (1, 16777619, (sep.length : Int))) fun w1 =>
 some (w, w1)
theorem leBytealgHashStrRevString (fuel : Nat) (sep : List UInt8) : Le (cBytealgHashStrRevString fuel sep) (tBytealgHashStrRevString sep) := by
  unfold cBytealgHashStrRevString tBytealgHashStrRevString
  repeat' (first | exact Le.rfl' _ | apply leStringsliteHasPrefix | apply leStringsliteCutPrefix | apply leStringsCutPrefix | apply lePathIsNameF1 | apply leStringsIndexIn | apply leStringsIndexFunc | apply leStringsContainsFunc | apply lePathIsName | apply lePathInnerF1 | apply leSlicesIndexFuncString | apply leSlicesContainsFuncString | apply lePathInner | apply lePathRight | apply leBytealgLastIndexByteString | apply leBytealgHashStrRevStringL1 | apply leBytealgHashStrRevStringL2 | refine Le.bd ?_ fun _ => ?_ | refine Le.ite ?_ ?_ | refine Le.ix fun _ => ?_ | refine Le.loop fun _ => ?_ | refine Le.sum (fun _ => ?_) (fun _ => ?_) | intro _)
def cBytealgLastIndexRabinKarpStringL1 (fuel : Nat) (a : List UInt8) (a1 : List UInt8) (st : Int × Int) : Option ((Int × Int) ⊕ Int) :=
 if (IntKind.wrap .i64 ((a.length : Int) - (a1.length : Int))) ≤ st.2 then
 if (0 : Int) ≤ st.2 ∧ st.2 < (a.length : Int) then
 some (.inl (IntKind.wrap .u32 ((IntKind.wrap .u32 (st.1 * 16777619)) + (IntKind.wrap .u32 ((a.getD (Int.toNat st.2) 0).toNat : Int))), IntKind.wrap .i64 (st.2 - 1)))
 else none
 else
 some (.inr st.1)
theorem leBytealgLastIndexRabinKarpStringL1 (fuel : Nat) (a : List UInt8) (a1 : List UInt8) (st : Int × Int) : Le (cBytealgLastIndexRabinKarpStringL1 fuel a a1 st) (tBytealgLastIndexRabinKarpStringL1 a a1 st) := by
  unfold cBytealgLastIndexRabinKarpStringL1 tBytealgLastIndexRabinKarpStringL1
  repeat' (first | exact Le.rfl' _ | apply leStringsliteHasPrefix | apply leStringsliteCutPrefix | apply leStringsCutPrefix | apply lePathIsNameF1 | apply leStringsIndexIn | apply leStringsIndexFunc | apply leStringsContainsFunc | apply lePathIsName | apply lePathInnerF1 | apply leSlicesIndexFuncString | apply leSlicesContainsFuncString | apply lePathInner | apply lePathRight | apply leBytealgLastIndexByteString | apply leBytealgHashStrRevString | refine Le.bd ?_ fun _ => ?_ | refine Le.ite ?_ ?_ | refine Le.ix fun _ => ?_ | refine Le.loop fun _ => ?_ | refine Le.sum (fun _ => ?_) (fun _ => ?_) | intro _)
def cBytealgLastIndexRabinKarpStringL2 (fuel : Nat) (a : List UInt8) (a1 : List UInt8) (rA : Int × Int) (st1 : Int × Int) : Option ((Int × Int) ⊕ (Unit ⊕ Int)) :=
 if (0 : Int) ≤ st1.2 then
 if (0 : Int) ≤ st1.2 ∧ st1.2 < (a.length : Int) then
 if (0 : Int) ≤ (IntKind.wrap .i64 (st1.2 + (a1.length : Int))) ∧ (IntKind.wrap .i64 (st1.2 + (a1.length : Int))) < (a.length : Int) then
 bd (
   if (IntKind.wrap .u32 ((IntKind.wrap .u32 ((IntKind.wrap .u32 (st1.1 * 16777619)) + (IntKind.wrap .u32 ((a.getD (Int.toNat st1.2) 0).toNat : Int)))) - (IntKind.wrap .u32 (rA.2 * (IntKind.wrap .u32 ((a.getD (Int.toNat (IntKind.wrap .i64 (st1.2 + (a1.length : Int)))) 0).toNat : Int)))))) = rA.1 then
   if (0 : Int) ≤ st1.2 ∧ st1.2 ≤ (IntKind.wrap .i64 (st1.2 + (a1.length : Int))) ∧ (IntKind.wrap .i64 (st1.2 + (a1.length : Int))) ≤ (a.length : Int) then
   some (decide ((List.drop (Int.toNat st1.2) (List.take (Int.toNat (IntKind.wrap .i64 (st1.2 + (a1.length : Int)))) a)) = a1))
   else none
   else
   some false : Option Bool) fun w3 =>
 if w3 then
 some (.inr (.inr st1.2))
 else
 some (.inl (IntKind.wrap .u32 ((IntKind.wrap .u32 ((IntKind.wrap .u32 (st1.1 * 16777619)) + (IntKind.wrap .u32 ((a.getD (Int.toNat st1.2) 0).toNat : Int)))) - (IntKind.wrap .u32 (rA.2 * (IntKind.wrap .u32 ((a.getD (Int.toNat (IntKind.wrap .i64 (st1.2 + (a1.length : Int)))) 0).toNat : Int))))), IntKind.wrap .i64 (st1.2 - 1)))
 else none
 else none
 else
 some (.inr (.inl ()))
theorem leBytealgLastIndexRabinKarpStringL2 (fuel : Nat) (a : List UInt8) (a1 : List UInt8) (rA : Int × Int) (st1 : Int × Int) : Le (cBytealgLastIndexRabinKarpStringL2 fuel a a1 rA st1) (tBytealgLastIndexRabinKarpStringL2 a a1 rA st1) := by
  unfold cBytealgLastIndexRabinKarpStringL2 tBytealgLastIndexRabinKarpStringL2
  repeat' (first | exact Le.rfl' _ | apply leStringsliteHasPrefix | apply leStringsliteCutPrefix | apply leStringsCutPrefix | apply lePathIsNameF1 | apply leStringsIndexIn | apply leStringsIndexFunc | apply leStringsContainsFunc | apply lePathIsName | apply lePathInnerF1 | apply leSlicesIndexFuncString | apply leSlicesContainsFuncString | apply lePathInner | apply lePathRight | apply leBytealgLastIndexByteString | apply leBytealgHashStrRevString | apply leBytealgLastIndexRabinKarpStringL1 | refine Le.bd ?_ fun _ => ?_ | refine Le.ite ?_ ?_ | refine Le.ix fun _ => ?_ | refine Le.loop fun _ => ?_ | refine Le.sum (fun _ => ?_) (fun _ => ?_) | intro _)
def cBytealgLastIndexRabinKarpString (fuel : Nat) (a : List UInt8) (a1 : List UInt8) : Option Int :=
 bd ((cBytealgHashStrRevString fuel) a1) fun rA =>
 bd (LoopC fuel ((cBytealgLastIndexRabinKarpStringL1 fuel) a a1) (0, IntKind.wrap .i64 ((a.length : Int) - 1))) fun w =>
 bd (
   if w = rA.1 then
   if (0 : Int) ≤ (IntKind.wrap .i64 ((a.length : Int) - (a1.length : Int))) ∧ (IntKind.wrap .i64 ((a.length : Int) - (a1.length : Int))) ≤ (a.length : Int) ∧ (a.length : Int) ≤ (a.length : Int) then
   some (decide ((List.drop (Int.toNat (IntKind.wrap .i64 ((a.length : Int) - (a1.length : Int)))) (List.take (Int.toNat (a.length : Int)) a)) = a1))
   else none
   else
   some false : Option Bool) fun w1 =>
 if w1 then
 some (IntKind.wrap .i64 ((a.length : Int) - (a1.length : Int)))
 else
 bd (LoopC fuel ((cBytealgLastIndexRabinKarpStringL2 fuel) a a1 rA) (w, IntKind.wrap .i64 ((IntKind.wrap .i64 ((a.length : Int) - (a1.length : Int))) - 1))) fun w2 =>
 match w2 with
 | .inl p2 =>
   some (-1)
 | .inr p3 =>
   some p3
theorem leBytealgLastIndexRabinKarpString (fuel : Nat) (a : List UInt8) (a1 : List UInt8) : Le (cBytealgLastIndexRabinKarpString fuel a a1) (tBytealgLastIndexRabinKarpString a a1) := by
  unfold cBytealgLastIndexRabinKarpString tBytealgLastIndexRabinKarpString
  repeat' (first | exact Le.rfl' _ | apply leStringsliteHasPrefix | apply leStringsliteCutPrefix | apply leStringsCutPrefix | apply lePathIsNameF1 | apply leStringsIndexIn | apply leStringsIndexFunc | apply leStringsContainsFunc | apply lePathIsName | apply lePathInnerF1 | apply leSlicesIndexFuncString | apply leSlicesContainsFuncString | apply lePathInner | apply lePathRight | apply leBytealgLastIndexByteString | apply leBytealgHashStrRevString | apply leBytealgLastIndexRabinKarpStringL1 | apply leBytealgLastIndexRabinKarpStringL2 | refine Le.bd ?_ fun _ => ?_ | refine Le.ite ?_ ?_ | refine Le.ix fun _ => ?_ | refine Le.loop fun _ => ?_ | refine Le.sum (fun _ => ?_) (fun _ => ?_) | intro _)
def cStringsLastIndex (fuel : Nat) (sA : List UInt8) (substr : List UInt8) : Option Int :=
 if (substr.length : Int) = 0 then
 some (sA.length : Int)
 else
 if (substr.length : Int) = 1 then
 if (0 : Int) ≤ 0 ∧ (0 : Int) < (substr.length : Int) then
 bd ((cBytealgLastIndexByteString fuel) sA ((substr.getD (Int.toNat 0) 0).toNat : Int)) fun rA =>
 some rA
 else none
 else
 if (substr.length : Int) = (sA.length : Int) then
 if substr = sA then
 some 0
 else
 some (-1)
 else
 if (sA.length : Int) < (substr.length : Int) then
 some (-1)
 else
 bd ((cBytealgLastIndexRabinKarpString fuel) sA substr) fun rA1 =>
 some rA1
theorem leStringsLastIndex (fuel : Nat) (sA : List UInt8) (substr : List UInt8) : Le (cStringsLastIndex fuel sA substr) (tStringsLastIndex sA substr) := by
  unfold cStringsLastIndex tStringsLastIndex
  repeat' (first | exact Le.rfl' _ | apply leStringsliteHasPrefix | apply leStringsliteCutPrefix | apply leStringsCutPrefix | apply lePathIsNameF1 | apply leStringsIndexIn | apply leStringsIndexFunc | apply leStringsContainsFunc | apply lePathIsName | apply lePathInnerF1 | apply leSlicesIndexFuncString | apply leSlicesContainsFuncString | apply lePathInner | apply lePathRight | apply leBytealgLastIndexByteString | apply leBytealgHashStrRevString | apply leBytealgLastIndexRabinKarpString | refine Le.bd ?_ fun _ => ?_ | refine Le.ite ?_ ?_ | refine Le.ix fun _ => ?_ | refine Le.loop fun _ => ?_ | refine Le.sum (fun _ => ?_) (fun _ => ?_) | intro _)
def cPathParent (fuel : Nat) (p : List UInt8) : Option ((List UInt8) × Int) :=
 bd ((cPathRight fuel) p) fun rA =>
 if !rA then
 some (([] : List UInt8), 13)
 else
 if p = ([47] : List UInt8) then
 some (([] : List UInt8), 6)
 else
 bd ((cStringsLastIndex fuel) p ([47] : List UInt8)) fun rA1 =>
 if (0 : Int) ≤ 0 ∧ (0 : Int) ≤ (imax 1 rA1) ∧ (imax 1 rA1) ≤ (p.length : Int) then
 some (List.drop (Int.toNat 0) (List.take (Int.toNat (imax 1 rA1)) p), 0)
 else none
theorem lePathParent (fuel : Nat) (p : List UInt8) : Le (cPathParent fuel p) (tPathParent p) := by
  unfold cPathParent tPathParent
  repeat' (first | exact Le.rfl' _ | apply leStringsliteHasPrefix | apply leStringsliteCutPrefix | apply leStringsCutPrefix | apply lePathIsNameF1 | apply leStringsIndexIn | apply leStringsIndexFunc | apply leStringsContainsFunc | apply lePathIsName | apply lePathInnerF1 | apply leSlicesIndexFuncString | apply leSlicesContainsFuncString | apply lePathInner | apply lePathRight | apply leBytealgLastIndexByteString | apply leBytealgHashStrRevString | apply leBytealgLastIndexRabinKarpString | apply leStringsLastIndex | refine Le.bd ?_ fun _ => ?_ | refine Le.ite ?_ ?_ | refine Le.ix fun _ => ?_ | refine Le.loop fun _ => ?_ | refine Le.sum (fun _ => ?_) (fun _ => ?_) | intro _)
def cCmpIsNaNString (fuel : Nat) (x : List UInt8) : Option Bool :=
 some (!decide (x = x))
theorem leCmpIsNaNString (fuel : Nat) (x : List UInt8) : Le (cCmpIsNaNString fuel x) (tCmpIsNaNString x) := by
  unfold cCmpIsNaNString tCmpIsNaNString
  repeat' (first | exact Le.rfl' _ | apply leStringsliteHasPrefix | apply leStringsliteCutPrefix | apply leStringsCutPrefix | apply lePathIsNameF1 | apply leStringsIndexIn | apply leStringsIndexFunc | apply leStringsContainsFunc | apply lePathIsName | apply lePathInnerF1 | apply leSlicesIndexFuncString | apply leSlicesContainsFuncString | apply lePathInner | apply lePathRight | apply leBytealgLastIndexByteString | apply leBytealgHashStrRevString | apply leBytealgLastIndexRabinKarpString | apply leStringsLastIndex | apply lePathParent | refine Le.bd ?_ fun _ => ?_ | refine Le.ite ?_ ?_ | refine Le.ix fun _ => ?_ | refine Le.loop fun _ => ?_ | refine Le.sum (fun _ => ?_) (fun _ => ?_) | intro _)
def cCmpCompareString (fuel : Nat) (x : List UInt8) (y : List UInt8) : Option Int :=
 bd ((cCmpIsNaNString fuel) x) fun rA =>
 bd ((cCmpIsNaNString fuel) y) fun rA1 =>
 if rA then
 if rA1 then
 some 0
 else
 some (-1)
 else
 if rA1 then
 some 1
 else
 if Op.bytesLess x y then
 some (-1)
 else
 if !(Op.bytesLess x y || decide (x = y)) then
 some 1
 else
 some 0
theorem leCmpCompareString (fuel : Nat) (x : List UInt8) (y : List UInt8) : Le (cCmpCompareString fuel x y) (tCmpCompareString x y) := by
  unfold cCmpCompareString tCmpCompareString
  repeat' (first | exact Le.rfl' _ | apply leStringsliteHasPrefix | apply leStringsliteCutPrefix | apply leStringsCutPrefix | apply lePathIsNameF1 | apply leStringsIndexIn | apply leStringsIndexFunc | apply leStringsContainsFunc | apply lePathIsName | apply lePathInnerF1 | apply leSlicesIndexFuncString | apply leSlicesContainsFuncString | apply lePathInner | apply lePathRight | apply leBytealgLastIndexByteString | apply leBytealgHashStrRevString | apply leBytealgLastIndexRabinKarpString | apply leStringsLastIndex | apply lePathParent | apply leCmpIsNaNString | refine Le.bd ?_ fun _ => ?_ | refine Le.ite ?_ ?_ | refine Le.ix fun _ => ?_ | refine Le.loop fun _ => ?_ | refine Le.sum (fun _ => ?_) (fun _ => ?_) | intro _)
def cSlicesCompareStringL1 (fuel : Nat) (s1 : List (List UInt8)) (s2 : List (List UInt8)) (st : Int) : Option (Int ⊕ (Unit ⊕ Int)) :=
 if st < (s1.length : Int) then
 ix s1 st fun y =>
 if (s2.length : Int) ≤ st then
 some (.inr (.inr 1))
 else
 ix s2 st fun y1 =>
 bd ((cCmpCompareString fuel) y y1) fun rA =>
 if !decide (rA = 0) then
 some (.inr (.inr rA))
 else
 some (.inl (IntKind.wrap .i64 (st + 1)))
 else
 some (.inr (.inl ()))
theorem leSlicesCompareStringL1 (fuel : Nat) (s1 : List (List UInt8)) (s2 : List (List UInt8)) (st : Int) : Le (cSlicesCompareStringL1 fuel s1 s2 st) (tSlicesCompareStringL1 s1 s2 st) := by
  unfold cSlicesCompareStringL1 tSlicesCompareStringL1
  repeat' (first | exact Le.rfl' _ | apply leStringsliteHasPrefix | apply leStringsliteCutPrefix | apply leStringsCutPrefix | apply lePathIsNameF1 | apply leStringsIndexIn | apply leStringsIndexFunc | apply leStringsContainsFunc | apply lePathIsName | apply lePathInnerF1 | apply leSlicesIndexFuncString | apply leSlicesContainsFuncString | apply lePathInner | apply lePathRight | apply leBytealgLastIndexByteString | apply leBytealgHashStrRevString | apply leBytealgLastIndexRabinKarpString | apply leStringsLastIndex | apply lePathParent | apply leCmpIsNaNString | apply leCmpCompareString | refine Le.bd ?_ fun _ => ?_ | refine Le.ite ?_ ?_ | refine Le.ix fun _ => ?_ | refine Le.loop fun _ => ?_ | refine Le.sum (fun _ => ?_) (fun _ => ?_) | intro _)
def cSlicesCompareString (fuel : Nat) (s1 : List (List UInt8)) (s2 : List (List UInt8)) : Option Int :=
 bd (LoopC fuel ((cSlicesCompareStringL1 fuel) s1 s2) 0) fun w =>
 match w with
 | .inl p1 =>
   if (s1.length : Int) < (s2.length : Int) then
   some (-1)
   else
   some 0
 | .inr p2 =>
   some p2
theorem leSlicesCompareString (fuel : Nat) (s1 : List (List UInt8)) (s2 : List (List UInt8)) : Le (cSlicesCompareString fuel s1 s2) (tSlicesCompareString s1 s2) := by
  unfold cSlicesCompareString tSlicesCompareString
  repeat' (first | exact Le.rfl' _ | apply leStringsliteHasPrefix | apply leStringsliteCutPrefix | apply leStringsCutPrefix | apply lePathIsNameF1 | apply leStringsIndexIn | apply leStringsIndexFunc | apply leStringsContainsFunc | apply lePathIsName | apply lePathInnerF1 | apply leSlicesIndexFuncString | apply leSlicesContainsFuncString | apply lePathInner | apply lePathRight | apply leBytealgLastIndexByteString | apply leBytealgHashStrRevString | apply leBytealgLastIndexRabinKarpString | apply leStringsLastIndex | apply lePathParent | apply leCmpIsNaNString | apply leCmpCompareString | apply leSlicesCompareStringL1 | refine Le.bd ?_ fun _ => ?_ | refine Le.ite ?_ ?_ | refine Le.ix fun _ => ?_ | refine Le.loop fun _ => ?_ | refine Le.sum (fun _ => ?_) (fun _ => ?_) | intro _)
def cPathAhead (fuel : Nat) (p : List UInt8) (q : List UInt8) : Option Bool :=
 bd ((cPathInner fuel) p) fun rA =>
 bd ((cPathInner fuel) q) fun rA1 =>
 bd (
   if rA.2 then
   if rA1.2 then
   bd ((cSlicesCompareString fuel) rA.1 rA1.1) fun rA2 =>
   some (decide (rA2 < 0))
   else
   some false
   else
   some false : Option Bool) fun w =>
 some w
theorem lePathAhead (fuel : Nat) (p : List UInt8) (q : List UInt8) : Le (cPathAhead fuel p q) (tPathAhead p q) := by
  unfold cPathAhead tPathAhead
  repeat' (first | exact Le.rfl' _ | apply leStringsliteHasPrefix | apply leStringsliteCutPrefix | apply leStringsCutPrefix | apply lePathIsNameF1 | apply leStringsIndexIn | apply leStringsIndexFunc | apply leStringsContainsFunc | apply lePathIsName | apply lePathInnerF1 | apply leSlicesIndexFuncString | apply leSlicesContainsFuncString | apply lePathInner | apply lePathRight | apply leBytealgLastIndexByteString | apply leBytealgHashStrRevString | apply leBytealgLastIndexRabinKarpString | apply leStringsLastIndex | apply lePathParent | apply leCmpIsNaNString | apply leCmpCompareString | apply leSlicesCompareString | refine Le.bd ?_ fun _ => ?_ | refine Le.ite ?_ ?_ | refine Le.ix fun _ => ?_ | refine Le.loop fun _ => ?_ | refine Le.sum (fun _ => ?_) (fun _ => ?_) | intro _)
def cL08Alive (fuel : Nat) : Option Bool :=
 bd ((cPathParent fuel) ([47, 97, 47, 98] : List UInt8)) fun rA =>
 bd ((cPathParent fuel) ([47] : List UInt8)) fun rA1 =>
 bd (
   if rA.1 = ([47, 97] : List UInt8) then
   if rA.2 = 0 then
   if rA1.2 = 6 then
   bd ((cPathRight fuel) ([47] : List UInt8)) fun rA2 =>
   if rA2 then
   bd ((cPathRight fuel) ([97] : List UInt8)) fun rA3 =>
   if !rA3 then
   bd ((cPathAhead fuel) ([47, 97, 47, 98] : List UInt8) ([47, 97, 45, 98] : List UInt8)) fun rA4 =>
   some rA4
   else
   some false
   else
   some false
   else
   some false
   else
   some false
   else
   some false : Option Bool) fun w =>
 some w
theorem leL08Alive (fuel : Nat) : Le (cL08Alive fuel) (tL08Alive) := by
  unfold cL08Alive tL08Alive
  repeat' (first | exact Le.rfl' _ | apply leStringsliteHasPrefix | apply leStringsliteCutPrefix | apply leStringsCutPrefix | apply lePathIsNameF1 | apply leStringsIndexIn | apply leStringsIndexFunc | apply leStringsContainsFunc | apply lePathIsName | apply lePathInnerF1 | apply leSlicesIndexFuncString | apply leSlicesContainsFuncString | apply lePathInner | apply lePathRight | apply leBytealgLastIndexByteString | apply leBytealgHashStrRevString | apply leBytealgLastIndexRabinKarpString | apply leStringsLastIndex | apply lePathParent | apply leCmpIsNaNString | apply leCmpCompareString | apply leSlicesCompareString | apply lePathAhead | refine Le.bd ?_ fun _ => ?_ | refine Le.ite ?_ ?_ | refine Le.ix fun _ => ?_ | refine Le.loop fun _ => ?_ | refine Le.sum (fun _ => ?_) (fun _ => ?_) | intro _)
def cShelfNew (fuel : Nat) : Option ShelfShelf :=
 some (⟨([(⟨([47] : List UInt8), ([] : List UInt8), 0, 0⟩ : ShelfNode)] : List ShelfNode)⟩ : ShelfShelf)
theorem leShelfNew (fuel : Nat) : Le (cShelfNew fuel) (tShelfNew) := by
  unfold cShelfNew tShelfNew
  repeat' (first | exact Le.rfl' _ | apply leStringsliteHasPrefix | apply leStringsliteCutPrefix | apply leStringsCutPrefix | apply lePathIsNameF1 | apply leStringsIndexIn | apply leStringsIndexFunc | apply leStringsContainsFunc | apply lePathIsName | apply lePathInnerF1 | apply leSlicesIndexFuncString | apply leSlicesContainsFuncString | apply lePathInner | apply lePathRight | apply leBytealgLastIndexByteString | apply leBytealgHashStrRevString | apply leBytealgLastIndexRabinKarpString | apply leStringsLastIndex | apply lePathParent | apply leCmpIsNaNString | apply leCmpCompareString | apply leSlicesCompareString | apply lePathAhead | apply leL08Alive | refine Le.bd ?_ fun _ => ?_ | refine Le.ite ?_ ?_ | refine Le.ix fun _ => ?_ | refine Le.loop fun _ => ?_ | refine Le.sum (fun _ => ?_) (fun _ => ?_) | intro _)
def cShelfShelfPlaceF1 (fuel : Nat) (n : ShelfNode) (p : List UInt8) : Option Int :=
 if n.Path = p then
 some 0
 else
 bd ((cPathAhead fuel) n.Path p) fun rA =>
 if rA then
 some (-1)
 else
 some 1
theorem leShelfShelfPlaceF1 (fuel : Nat) (n : ShelfNode) (p : List UInt8) : Le (cShelfShelfPlaceF1 fuel n p) (tShelfShelfPlaceF1 n p) := by
  unfold cShelfShelfPlaceF1 tShelfShelfPlaceF1
  repeat' (first | exact Le.rfl' _ | apply leStringsliteHasPrefix | apply leStringsliteCutPrefix | apply leStringsCutPrefix | apply lePathIsNameF1 | apply leStringsIndexIn | apply leStringsIndexFunc | apply leStringsContainsFunc | apply lePathIsName | apply lePathInnerF1 | apply leSlicesIndexFuncString | apply leSlicesContainsFuncString | apply lePathInner | apply lePathRight | apply leBytealgLastIndexByteString | apply leBytealgHashStrRevString | apply leBytealgLastIndexRabinKarpString | apply leStringsLastIndex | apply lePathParent | apply leCmpIsNaNString | apply leCmpCompareString | apply leSlicesCompareString | apply lePathAhead | apply leL08Alive | apply leShelfNew | refine Le.bd ?_ fun _ => ?_ | refine Le.ite ?_ ?_ | refine Le.ix fun _ => ?_ | refine Le.loop fun _ => ?_ | refine Le.sum (fun _ => ?_) (fun _ => ?_) | intro _)
def cSlicesBinarySearchFuncShelfNodeStringL1 (fuel : Nat) (x : List ShelfNode) (target : List UInt8) (cmp : ShelfNode → (List UInt8) → Option Int) (st : Int × Int) : Option ((Int × Int) ⊕ Int) :=
 if st.1 < st.2 then
 if (0 : Int) ≤ 1 then
 ix x (IntKind.wrap .i64 (Int.fdiv (IntKind.wrap .u64 (IntKind.wrap .i64 (st.1 + st.2))) (2 ^ min (Int.toNat 1) (IntKind.bits .u64)))) fun y =>
 bd (cmp y target) fun rA =>
 bd (
   if rA < 0 then
   some (IntKind.wrap .i64 ((IntKind.wrap .i64 (Int.fdiv (IntKind.wrap .u64 (IntKind.wrap .i64 (st.1 + st.2))) (2 ^ min (Int.toNat 1) (IntKind.bits .u64)))) + 1), st.2)
   else
   some (st.1, IntKind.wrap .i64 (Int.fdiv (IntKind.wrap .u64 (IntKind.wrap .i64 (st.1 + st.2))) (2 ^ min (Int.toNat 1) (IntKind.bits .u64)))) : Option (Int × Int)) fun w1 =>
 some (.inl (w1.1, w1.2))
 else none
 else
 some (.inr st.1)
theorem leSlicesBinarySearchFuncShelfNodeStringL1 (fuel : Nat) (x : List ShelfNode) (target : List UInt8) (cmp cmpA : ShelfNode → (List UInt8) → Option Int) (hcmp : ∀ u0 u1, Le (cmp u0 u1) (cmpA u0 u1)) (st : Int × Int) : Le (cSlicesBinarySearchFuncShelfNodeStringL1 fuel x target cmp st) (tSlicesBinarySearchFuncShelfNodeStringL1 x target cmpA st) := by
  unfold cSlicesBinarySearchFuncShelfNodeStringL1 tSlicesBinarySearchFuncShelfNodeStringL1
  repeat' (first | exact Le.rfl' _ | apply leStringsliteHasPrefix | apply leStringsliteCutPrefix | apply leStringsCutPrefix | apply lePathIsNameF1 | apply leStringsIndexIn | apply leStringsIndexFunc | apply leStringsContainsFunc | apply lePathIsName | apply lePathInnerF1 | apply leSlicesIndexFuncString | apply leSlicesContainsFuncString | apply lePathInner | apply lePathRight | apply leBytealgLastIndexByteString | apply leBytealgHashStrRevString | apply leBytealgLastIndexRabinKarpString | apply leStringsLastIndex | apply lePathParent | apply leCmpIsNaNString | apply leCmpCompareString | apply leSlicesCompareString | apply lePathAhead | apply leL08Alive | apply leShelfNew | apply leShelfShelfPlaceF1 | exact hcmp _ _ _ | exact hcmp _ _ | exact hcmp _ | exact hcmp | refine Le.bd ?_ fun _ => ?_ | refine Le.ite ?_ ?_ | refine Le.ix fun _ => ?_ | refine Le.loop fun _ => ?_ | refine Le.sum (fun _ => ?_) (fun _ => ?_) | intro _)
def cSlicesBinarySearchFuncShelfNodeString (fuel : Nat) (x : List ShelfNode) (target : List UInt8) (cmp : ShelfNode → (List UInt8) → Option Int) : Option (Int × Bool) :=
 bd (LoopC fuel ((cSlicesBinarySearchFuncShelfNodeStringL1 fuel) x target cmp) (0, (x.length : Int))) fun w =>
 bd (
   if w < (x.length : Int) then
   ix x w fun y1 =>
   bd (cmp y1 target) fun rA1 =>
   some (w, decide (rA1 = 0))
   else
   some (w, false) : Option (Int × Bool)) fun w2 =>
 some (w2.1, w2.2)
theorem leSlicesBinarySearchFuncShelfNodeString (fuel : Nat) (x : List ShelfNode) (target : List UInt8) (cmp cmpA : ShelfNode → (List UInt8) → Option Int) (hcmp : ∀ u0 u1, Le (cmp u0 u1) (cmpA u0 u1)) : Le (cSlicesBinarySearchFuncShelfNodeString fuel x target cmp) (tSlicesBinarySearchFuncShelfNodeString x target cmpA) := by
  unfold cSlicesBinarySearchFuncShelfNodeString tSlicesBinarySearchFuncShelfNodeString
  repeat' (first | exact Le.rfl' _ | apply leStringsliteHasPrefix | apply leStringsliteCutPrefix | apply leStringsCutPrefix | apply lePathIsNameF1 | apply leStringsIndexIn | apply leStringsIndexFunc | apply leStringsContainsFunc | apply lePathIsName | apply lePathInnerF1 | apply leSlicesIndexFuncString | apply leSlicesContainsFuncString | apply lePathInner | apply lePathRight | apply leBytealgLastIndexByteString | apply leBytealgHashStrRevString | apply leBytealgLastIndexRabinKarpString | apply leStringsLastIndex | apply lePathParent | apply leCmpIsNaNString | apply leCmpCompareString | apply leSlicesCompareString | apply lePathAhead | apply leL08Alive | apply leShelfNew | apply leShelfShelfPlaceF1 | apply leSlicesBinarySearchFuncShelfNodeStringL1 | exact hcmp _ _ _ | exact hcmp _ _ | exact hcmp _ | exact hcmp | refine Le.bd ?_ fun _ => ?_ | refine Le.ite ?_ ?_ | refine Le.ix fun _ => ?_ | refine Le.loop fun _ => ?_ | refine Le.sum (fun _ => ?_) (fun _ => ?_) | intro _)
def cShelfShelfPlace (fuel : Nat) (sA : ShelfShelf) (p : List UInt8) : Option (Int × Bool) :=
 bd ((cSlicesBinarySearchFuncShelfNodeString fuel) sA.L p (cShelfShelfPlaceF1 fuel)) fun rA =>
 some (rA.1, rA.2)
theorem leShelfShelfPlace (fuel : Nat) (sA : ShelfShelf) (p : List UInt8) : Le (cShelfShelfPlace fuel sA p) (tShelfShelfPlace sA p) := by
  unfold cShelfShelfPlace tShelfShelfPlace
  repeat' (first | exact Le.rfl' _ | apply leStringsliteHasPrefix | apply leStringsliteCutPrefix | apply leStringsCutPrefix | apply lePathIsNameF1 | apply leStringsIndexIn | apply leStringsIndexFunc | apply leStringsContainsFunc | apply lePathIsName | apply lePathInnerF1 | apply leSlicesIndexFuncString | apply leSlicesContainsFuncString | apply lePathInner | apply lePathRight | apply leBytealgLastIndexByteString | apply leBytealgHashStrRevString | apply leBytealgLastIndexRabinKarpString | apply leStringsLastIndex | apply lePathParent | apply leCmpIsNaNString | apply leCmpCompareString | apply leSlicesCompareString | apply lePathAhead | apply leL08Alive | apply leShelfNew | apply leShelfShelfPlaceF1 | apply leSlicesBinarySearchFuncShelfNodeString | refine Le.bd ?_ fun _ => ?_ | refine Le.ite ?_ ?_ | refine Le.ix fun _ => ?_ | refine Le.loop fun _ => ?_ | refine Le.sum (fun _ => ?_) (fun _ => ?_) | intro _)
def cShelfShelfFind (fuel : Nat) (sA : ShelfShelf) (p : List UInt8) : Option (Int × Int) :=
 bd ((cPathRight fuel) p) fun rA =>
 if !rA then
 some (0, 13)
 else
 bd ((cShelfShelfPlace fuel) sA p) fun rA1 =>
 if !rA1.2 then
 some (0, 6)
 else
 some (rA1.1, 0)
theorem leShelfShelfFind (fuel : Nat) (sA : ShelfShelf) (p : List UInt8) : Le (cShelfShelfFind fuel sA p) (tShelfShelfFind sA p) := by
  unfold cShelfShelfFind tShelfShelfFind
  repeat' (first | exact Le.rfl' _ | apply leStringsliteHasPrefix | apply leStringsliteCutPrefix | apply leStringsCutPrefix | apply lePathIsNameF1 | apply leStringsIndexIn | apply leStringsIndexFunc | apply leStringsContainsFunc | apply lePathIsName | apply lePathInnerF1 | apply leSlicesIndexFuncString | apply leSlicesContainsFuncString | apply lePathInner | apply lePathRight | apply leBytealgLastIndexByteString | apply leBytealgHashStrRevString | apply leBytealgLastIndexRabinKarpString | apply leStringsLastIndex | apply lePathParent | apply leCmpIsNaNString | apply leCmpCompareString | apply leSlicesCompareString | apply lePathAhead | apply leL08Alive | apply leShelfNew | apply leShelfShelfPlaceF1 | apply leSlicesBinarySearchFuncShelfNodeString | apply leShelfShelfPlace | refine Le.bd ?_ fun _ => ?_ | refine Le.ite ?_ ?_ | refine Le.ix fun _ => ?_ | refine Le.loop fun _ => ?_ | refine Le.sum (fun _ => ?_) (fun _ => ?_) | intro _)
def cShelfGet (fuel : Nat) (sA : ShelfShelf) (p : List UInt8) : Option (ShelfNode × Int) :=
 bd ((cShelfShelfFind fuel) sA p) fun rA =>
 if !decide (rA.2 = 0) then
 some ((⟨([] : List UInt8), ([] : List UInt8), 0, 0⟩ : ShelfNode), rA.2)
 else
 ix sA.L rA.1 fun y =>
 some (y, 0)
theorem leShelfGet (fuel : Nat) (sA : ShelfShelf) (p : List UInt8) : Le (cShelfGet fuel sA p) (tShelfGet sA p) := by
  unfold cShelfGet tShelfGet
  repeat' (first | exact Le.rfl' _ | apply leStringsliteHasPrefix | apply leStringsliteCutPrefix | apply leStringsCutPrefix | apply lePathIsNameF1 | apply leStringsIndexIn | apply leStringsIndexFunc | apply leStringsContainsFunc | apply lePathIsName | apply lePathInnerF1 | apply leSlicesIndexFuncString | apply leSlicesContainsFuncString | apply lePathInner | apply lePathRight | apply leBytealgLastIndexByteString | apply leBytealgHashStrRevString | apply leBytealgLastIndexRabinKarpString | apply leStringsLastIndex | apply lePathParent | apply leCmpIsNaNString | apply leCmpCompareString | apply leSlicesCompareString | apply lePathAhead | apply leL08Alive | apply leShelfNew | apply leShelfShelfPlaceF1 | apply leSlicesBinarySearchFuncShelfNodeString | apply leShelfShelfPlace | apply leShelfShelfFind | refine Le.bd ?_ fun _ => ?_ | refine Le.ite ?_ ?_ | refine Le.ix fun _ => ?_ | refine Le.loop fun _ => ?_ | refine Le.sum (fun _ => ?_) (fun _ => ?_) | intro _)
def cShelfCreateF1 (fuel : Nat) (c : List UInt8) (c1 : Bool) (c2 : ShelfShelf) (c3 : List UInt8) (c4 : Int) : Option Int :=
 bd ((cPathRight fuel) c) fun rA =>
 if !rA then
 some 13
 else
 if c1 then
 some 7
 else
 bd ((cPathParent fuel) c) fun rA1 =>
 bd ((cShelfGet fuel) c2 rA1.1) fun rA2 =>
 if !decide (rA2.2 = 0) then
 some 6
 else
 if !decide (rA2.1.Owner = 0) then
 some 10
 else
 if (1000 : Int) < (c3.length : Int) then
 some 5
 else
 if c4 < 0 then
 some 1
 else
 if (200 : Int) ≤ (c2.L.length : Int) then
 some 9
 else
 some 0
theorem leShelfCreateF1 (fuel : Nat) (c : List UInt8) (c1 : Bool) (c2 : ShelfShelf) (c3 : List UInt8) (c4 : Int) : Le (cShelfCreateF1 fuel c c1 c2 c3 c4) (tShelfCreateF1 c c1 c2 c3 c4) := by
  unfold cShelfCreateF1 tShelfCreateF1
  repeat' (first | exact Le.rfl' _ | apply leStringsliteHasPrefix | apply leStringsliteCutPrefix | apply leStringsCutPrefix | apply lePathIsNameF1 | apply leStringsIndexIn | apply leStringsIndexFunc | apply leStringsContainsFunc | apply lePathIsName | apply lePathInnerF1 | apply leSlicesIndexFuncString | apply leSlicesContainsFuncString | apply lePathInner | apply lePathRight | apply leBytealgLastIndexByteString | apply leBytealgHashStrRevString | apply leBytealgLastIndexRabinKarpString | apply leStringsLastIndex | apply lePathParent | apply leCmpIsNaNString | apply leCmpCompareString | apply leSlicesCompareString | apply lePathAhead | apply leL08Alive | apply leShelfNew | apply leShelfShelfPlaceF1 | apply leSlicesBinarySearchFuncShelfNodeString | apply leShelfShelfPlace | apply leShelfShelfFind | apply leShelfGet | refine Le.bd ?_ fun _ => ?_ | refine Le.ite ?_ ?_ | refine Le.ix fun _ => ?_ | refine Le.loop fun _ => ?_ | refine Le.sum (fun _ => ?_) (fun _ => ?_) | intro _)
def cShelfCreate (fuel : Nat) (sA : ShelfShelf) (p : List UInt8) (value : List UInt8) (owner : Int) : Option (ShelfShelf × Int) :=
 bd ((cShelfShelfPlace fuel) sA p) fun rA =>
 bd ((cShelfCreateF1 fuel) p rA.2 sA value owner) fun rA1 =>
 if !decide (rA1 = 0) then
 some (sA, rA1)
 else
 bd (tClone 48 sA.L) fun rA2 =>
 bd (tInsert 48 rA2 rA.1 ([(⟨p, value, 0, owner⟩ : ShelfNode)] : List ShelfNode)) fun rA3 =>
 some ((⟨rA3⟩ : ShelfShelf), 0)
theorem leShelfCreate (fuel : Nat) (sA : ShelfShelf) (p : List UInt8) (value : List UInt8) (owner : Int) : Le (cShelfCreate fuel sA p value owner) (tShelfCreate sA p value owner) := by
  unfold cShelfCreate tShelfCreate
  repeat' (first | exact Le.rfl' _ | apply leStringsliteHasPrefix | apply leStringsliteCutPrefix | apply leStringsCutPrefix | apply lePathIsNameF1 | apply leStringsIndexIn | apply leStringsIndexFunc | apply leStringsContainsFunc | apply lePathIsName | apply lePathInnerF1 | apply leSlicesIndexFuncString | apply leSlicesContainsFuncString | apply lePathInner | apply lePathRight | apply leBytealgLastIndexByteString | apply leBytealgHashStrRevString | apply leBytealgLastIndexRabinKarpString | apply leStringsLastIndex | apply lePathParent | apply leCmpIsNaNString | apply leCmpCompareString | apply leSlicesCompareString | apply lePathAhead | apply leL08Alive | apply leShelfNew | apply leShelfShelfPlaceF1 | apply leSlicesBinarySearchFuncShelfNodeString | apply leShelfShelfPlace | apply leShelfShelfFind | apply leShelfGet | apply leShelfCreateF1 | refine Le.bd ?_ fun _ => ?_ | refine Le.ite ?_ ?_ | refine Le.ix fun _ => ?_ | refine Le.loop fun _ => ?_ | refine Le.sum (fun _ => ?_) (fun _ => ?_) | intro _)
def cL09Alive (fuel : Nat) : Option Bool :=
 bd ((cShelfNew fuel)) fun rA =>
 bd ((cShelfCreate fuel) rA ([47, 97] : List UInt8) ([120] : List UInt8) 0) fun rA1 =>
 bd ((cShelfCreate fuel) rA ([47, 97, 47, 98] : List UInt8) ([120] : List UInt8) 0) fun rA2 =>
 bd ((cShelfGet fuel) rA1.1 ([47, 97] : List UInt8)) fun rA3 =>
 bd (
   if rA1.2 = 0 then
   if rA2.2 = 6 then
   if rA3.2 = 0 then
   if rA3.1.Value = ([120] : List UInt8) then
   if (rA1.1.L.length : Int) = 2 then
   some (decide ((rA.L.length : Int) = 1))
   else
   some false
   else
   some false
   else
   some false
   else
   some false
   else
   some false : Option Bool) fun w =>
 some w
theorem leL09Alive (fuel : Nat) : Le (cL09Alive fuel) (tL09Alive) := by
  unfold cL09Alive tL09Alive
  repeat' (first | exact Le.rfl' _ | apply leStringsliteHasPrefix | apply leStringsliteCutPrefix | apply leStringsCutPrefix | apply lePathIsNameF1 | apply leStringsIndexIn | apply leStringsIndexFunc | apply leStringsContainsFunc | apply lePathIsName | apply lePathInnerF1 | apply leSlicesIndexFuncString | apply leSlicesContainsFuncString | apply lePathInner | apply lePathRight | apply leBytealgLastIndexByteString | apply leBytealgHashStrRevString | apply leBytealgLastIndexRabinKarpString | apply leStringsLastIndex | apply lePathParent | apply leCmpIsNaNString | apply leCmpCompareString | apply leSlicesCompareString | apply lePathAhead | apply leL08Alive | apply leShelfNew | apply leShelfShelfPlaceF1 | apply leSlicesBinarySearchFuncShelfNodeString | apply leShelfShelfPlace | apply leShelfShelfFind | apply leShelfGet | apply leShelfCreateF1 | apply leShelfCreate | refine Le.bd ?_ fun _ => ?_ | refine Le.ite ?_ ?_ | refine Le.ix fun _ => ?_ | refine Le.loop fun _ => ?_ | refine Le.sum (fun _ => ?_) (fun _ => ?_) | intro _)
theorem evL08Alive : tL08Alive = some true := leL08Alive 200 _ (by decide +kernel)
theorem evL09Alive : tL09Alive = some true := leL09Alive 200 _ (by decide +kernel)
end Dn.S
