import Derived.Test.YteakdlhhamgfbaaDoorDnYT
import Derived.Test.YteakdlhhamgfbaaDoorDnD
/-
  The functions, with a bound on their rounds. Conditions: none.
-/
open Go Dn
set_option linter.unusedVariables false
set_option linter.unusedSimpArgs false
set_option maxRecDepth 100000
namespace Dn.S
def cStringsliteHasPrefix (fuel : Nat) (sA : List UInt8) (prefixA : List UInt8) : Option Bool :=
 bd (
   if (prefixA.length : Int) ≤ (sA.length : Int) then
   if (0 : Int) ≤ 0 ∧ (0 : Int) ≤ (prefixA.length : Int) ∧ (prefixA.length : Int) ≤ (sA.length : Int) then
   some (decide ((List.drop (Int.toNat 0) (List.take (Int.toNat (prefixA.length : Int)) sA)) = prefixA))
   else none
   else
   some false : Option Bool) fun w =>
 some w
theorem leStringsliteHasPrefix (fuel : Nat) (sA : List UInt8) (prefixA : List UInt8) : Le (cStringsliteHasPrefix fuel sA prefixA) (tStringsliteHasPrefix sA prefixA) := by
  unfold cStringsliteHasPrefix tStringsliteHasPrefix
  repeat' (first | exact Le.rfl' _ | refine Le.bd ?_ fun _ => ?_ | refine Le.ite ?_ ?_ | refine Le.ix fun _ => ?_ | refine Le.loop fun _ => ?_ | refine Le.delP (fun _ => ?_) _ | refine Le.delC (fun _ _ => ?_) _ _ | refine Le.sum (fun _ => ?_) (fun _ => ?_) | intro _)
def cStringsliteCutPrefix (fuel : Nat) (sA : List UInt8) (prefixA : List UInt8) : Option ((List UInt8) × Bool) :=
 bd ((cStringsliteHasPrefix fuel) sA prefixA) fun rA =>
 if !rA then
 some (sA, false)
 else
 if (0 : Int) ≤ (prefixA.length : Int) ∧ (prefixA.length : Int) ≤ (sA.length : Int) ∧ (sA.length : Int) ≤ (sA.length : Int) then
 some (List.drop (Int.toNat (prefixA.length : Int)) (List.take (Int.toNat (sA.length : Int)) sA), true)
 else none
theorem leStringsliteCutPrefix (fuel : Nat) (sA : List UInt8) (prefixA : List UInt8) : Le (cStringsliteCutPrefix fuel sA prefixA) (tStringsliteCutPrefix sA prefixA) := by
  unfold cStringsliteCutPrefix tStringsliteCutPrefix
  repeat' (first | exact Le.rfl' _ | apply leStringsliteHasPrefix | refine Le.bd ?_ fun _ => ?_ | refine Le.ite ?_ ?_ | refine Le.ix fun _ => ?_ | refine Le.loop fun _ => ?_ | refine Le.delP (fun _ => ?_) _ | refine Le.delC (fun _ _ => ?_) _ _ | refine Le.sum (fun _ => ?_) (fun _ => ?_) | intro _)
def cStringsCutPrefix (fuel : Nat) (sA : List UInt8) (prefixA : List UInt8) : Option ((List UInt8) × Bool) :=
 bd ((cStringsliteCutPrefix fuel) sA prefixA) fun rA =>
 some (rA.1, rA.2)
theorem leStringsCutPrefix (fuel : Nat) (sA : List UInt8) (prefixA : List UInt8) : Le (cStringsCutPrefix fuel sA prefixA) (tStringsCutPrefix sA prefixA) := by
  unfold cStringsCutPrefix tStringsCutPrefix
  repeat' (first | exact Le.rfl' _ | apply leStringsliteCutPrefix | refine Le.bd ?_ fun _ => ?_ | refine Le.ite ?_ ?_ | refine Le.ix fun _ => ?_ | refine Le.loop fun _ => ?_ | refine Le.delP (fun _ => ?_) _ | refine Le.delC (fun _ _ => ?_) _ _ | refine Le.sum (fun _ => ?_) (fun _ => ?_) | intro _)
def cPathIsNameF1 (fuel : Nat) (c : Int) : Option Bool :=
 bd (tHasRune ([97, 98, 99, 100, 101, 102, 103, 104, 105, 106, 107, 108, 109, 110, 111, 112, 113, 114, 115, 116, 117, 118, 119, 120, 121, 122, 48, 49, 50, 51, 52, 53, 54, 55, 56, 57, 45, 95] : List UInt8) c) fun rA =>
 some (!rA)
theorem lePathIsNameF1 (fuel : Nat) (c : Int) : Le (cPathIsNameF1 fuel c) (tPathIsNameF1 c) := by
  unfold cPathIsNameF1 tPathIsNameF1
  repeat' (first | exact Le.rfl' _ | refine Le.bd ?_ fun _ => ?_ | refine Le.ite ?_ ?_ | refine Le.ix fun _ => ?_ | refine Le.loop fun _ => ?_ | refine Le.delP (fun _ => ?_) _ | refine Le.delC (fun _ _ => ?_) _ _ | refine Le.sum (fun _ => ?_) (fun _ => ?_) | intro _)
def cStringsIndexInL1 (fuel : Nat) (f : Int → Option Bool) (truth : Bool) (st : (List MV)) : Option ((List MV) ⊕ (Unit ⊕ Int)) :=
 if itOk st then
 bd (f (itRune st)) fun rA =>
 if rA = truth then
 some (.inr (.inr (itPos st)))
 else
 some (.inl (itStep st))
 else
 some (.inr (.inl ()))
theorem leStringsIndexInL1 (fuel : Nat) (f fA : Int → Option Bool) (hf : ∀ u0, Le (f u0) (fA u0)) (truth : Bool) (st : (List MV)) : Le (cStringsIndexInL1 fuel f truth st) (tStringsIndexInL1 fA truth st) := by
  unfold cStringsIndexInL1 tStringsIndexInL1
  repeat' (first | exact Le.rfl' _ | exact hf _ _ _ | exact hf _ _ | exact hf _ | exact hf | refine Le.bd ?_ fun _ => ?_ | refine Le.ite ?_ ?_ | refine Le.ix fun _ => ?_ | refine Le.loop fun _ => ?_ | refine Le.delP (fun _ => ?_) _ | refine Le.delC (fun _ _ => ?_) _ _ | refine Le.sum (fun _ => ?_) (fun _ => ?_) | intro _)
def cStringsIndexIn (fuel : Nat) (sA : List UInt8) (f : Int → Option Bool) (truth : Bool) : Option Int :=
 bd (LoopC fuel ((cStringsIndexInL1 fuel) f truth) ([.s sA, .i .i64 0] : List MV)) fun w =>
 match w with
 | .inl p1 =>
   some (-1)
 | .inr p2 =>
   some p2
theorem leStringsIndexIn (fuel : Nat) (sA : List UInt8) (f fA : Int → Option Bool) (hf : ∀ u0, Le (f u0) (fA u0)) (truth : Bool) : Le (cStringsIndexIn fuel sA f truth) (tStringsIndexIn sA fA truth) := by
  unfold cStringsIndexIn tStringsIndexIn
  repeat' (first | exact Le.rfl' _ | apply leStringsIndexInL1 | exact hf _ _ _ | exact hf _ _ | exact hf _ | exact hf | refine Le.bd ?_ fun _ => ?_ | refine Le.ite ?_ ?_ | refine Le.ix fun _ => ?_ | refine Le.loop fun _ => ?_ | refine Le.delP (fun _ => ?_) _ | refine Le.delC (fun _ _ => ?_) _ _ | refine Le.sum (fun _ => ?_) (fun _ => ?_) | intro _)
def cStringsIndexFunc (fuel : Nat) (sA : List UInt8) (f : Int → Option Bool) : Option Int :=
 bd ((cStringsIndexIn fuel) sA f true) fun rA =>
 some rA
theorem leStringsIndexFunc (fuel : Nat) (sA : List UInt8) (f fA : Int → Option Bool) (hf : ∀ u0, Le (f u0) (fA u0)) : Le (cStringsIndexFunc fuel sA f) (tStringsIndexFunc sA fA) := by
  unfold cStringsIndexFunc tStringsIndexFunc
  repeat' (first | exact Le.rfl' _ | apply leStringsIndexIn | exact hf _ _ _ | exact hf _ _ | exact hf _ | exact hf | refine Le.bd ?_ fun _ => ?_ | refine Le.ite ?_ ?_ | refine Le.ix fun _ => ?_ | refine Le.loop fun _ => ?_ | refine Le.delP (fun _ => ?_) _ | refine Le.delC (fun _ _ => ?_) _ _ | refine Le.sum (fun _ => ?_) (fun _ => ?_) | intro _)
def cStringsContainsFunc (fuel : Nat) (sA : List UInt8) (f : Int → Option Bool) : Option Bool :=
 bd ((cStringsIndexFunc fuel) sA f) fun rA =>
 some (decide ((0 : Int) ≤ rA))
theorem leStringsContainsFunc (fuel : Nat) (sA : List UInt8) (f fA : Int → Option Bool) (hf : ∀ u0, Le (f u0) (fA u0)) : Le (cStringsContainsFunc fuel sA f) (tStringsContainsFunc sA fA) := by
  unfold cStringsContainsFunc tStringsContainsFunc
  repeat' (first | exact Le.rfl' _ | apply leStringsIndexFunc | exact hf _ _ _ | exact hf _ _ | exact hf _ | exact hf | refine Le.bd ?_ fun _ => ?_ | refine Le.ite ?_ ?_ | refine Le.ix fun _ => ?_ | refine Le.loop fun _ => ?_ | refine Le.delP (fun _ => ?_) _ | refine Le.delC (fun _ _ => ?_) _ _ | refine Le.sum (fun _ => ?_) (fun _ => ?_) | intro _)
def cPathIsName (fuel : Nat) (sA : List UInt8) : Option Bool :=
 bd (
   if !decide (sA = ([] : List UInt8)) then
   if (sA.length : Int) ≤ 30 then
   bd (tTrim sA ([97, 98, 99, 100, 101, 102, 103, 104, 105, 106, 107, 108, 109, 110, 111, 112, 113, 114, 115, 116, 117, 118, 119, 120, 121, 122, 48, 49, 50, 51, 52, 53, 54, 55, 56, 57, 45, 95] : List UInt8)) fun rA =>
   if rA = ([] : List UInt8) then
   bd ((cStringsContainsFunc fuel) sA (cPathIsNameF1 fuel)) fun rA1 =>
   some (!rA1)
   else
   some false
   else
   some false
   else
   some false : Option Bool) fun w =>
 some w
theorem lePathIsName (fuel : Nat) (sA : List UInt8) : Le (cPathIsName fuel sA) (tPathIsName sA) := by
  unfold cPathIsName tPathIsName
  repeat' (first | exact Le.rfl' _ | apply lePathIsNameF1 | apply leStringsContainsFunc | refine Le.bd ?_ fun _ => ?_ | refine Le.ite ?_ ?_ | refine Le.ix fun _ => ?_ | refine Le.loop fun _ => ?_ | refine Le.delP (fun _ => ?_) _ | refine Le.delC (fun _ _ => ?_) _ _ | refine Le.sum (fun _ => ?_) (fun _ => ?_) | intro _)
def cPathInnerF1 (fuel : Nat) (sA : List UInt8) : Option Bool :=
 bd ((cPathIsName fuel) sA) fun rA =>
 some (!rA)
theorem lePathInnerF1 (fuel : Nat) (sA : List UInt8) : Le (cPathInnerF1 fuel sA) (tPathInnerF1 sA) := by
  unfold cPathInnerF1 tPathInnerF1
  repeat' (first | exact Le.rfl' _ | apply lePathIsName | refine Le.bd ?_ fun _ => ?_ | refine Le.ite ?_ ?_ | refine Le.ix fun _ => ?_ | refine Le.loop fun _ => ?_ | refine Le.delP (fun _ => ?_) _ | refine Le.delC (fun _ _ => ?_) _ _ | refine Le.sum (fun _ => ?_) (fun _ => ?_) | intro _)
def cSlicesIndexFuncStringL1 (fuel : Nat) (sA : List (List UInt8)) (f : (List UInt8) → Option Bool) (st : Int) : Option (Int ⊕ (Unit ⊕ Int)) :=
 if st < (sA.length : Int) then
 ix sA st fun y =>
 bd (f y) fun rA =>
 if rA then
 some (.inr (.inr st))
 else
 some (.inl (IntKind.wrap .i64 (st + 1)))
 else
 some (.inr (.inl ()))
theorem leSlicesIndexFuncStringL1 (fuel : Nat) (sA : List (List UInt8)) (f fA : (List UInt8) → Option Bool) (hf : ∀ u0, Le (f u0) (fA u0)) (st : Int) : Le (cSlicesIndexFuncStringL1 fuel sA f st) (tSlicesIndexFuncStringL1 sA fA st) := by
  unfold cSlicesIndexFuncStringL1 tSlicesIndexFuncStringL1
  repeat' (first | exact Le.rfl' _ | exact hf _ _ _ | exact hf _ _ | exact hf _ | exact hf | refine Le.bd ?_ fun _ => ?_ | refine Le.ite ?_ ?_ | refine Le.ix fun _ => ?_ | refine Le.loop fun _ => ?_ | refine Le.delP (fun _ => ?_) _ | refine Le.delC (fun _ _ => ?_) _ _ | refine Le.sum (fun _ => ?_) (fun _ => ?_) | intro _)
def cSlicesIndexFuncString (fuel : Nat) (sA : List (List UInt8)) (f : (List UInt8) → Option Bool) : Option Int :=
 bd (LoopC fuel ((cSlicesIndexFuncStringL1 fuel) sA f) 0) fun w =>
 match w with
 | .inl p1 =>
   some (-1)
 | .inr p2 =>
   some p2
theorem leSlicesIndexFuncString (fuel : Nat) (sA : List (List UInt8)) (f fA : (List UInt8) → Option Bool) (hf : ∀ u0, Le (f u0) (fA u0)) : Le (cSlicesIndexFuncString fuel sA f) (tSlicesIndexFuncString sA fA) := by
  unfold cSlicesIndexFuncString tSlicesIndexFuncString
  repeat' (first | exact Le.rfl' _ | apply leSlicesIndexFuncStringL1 | exact hf _ _ _ | exact hf _ _ | exact hf _ | exact hf | refine Le.bd ?_ fun _ => ?_ | refine Le.ite ?_ ?_ | refine Le.ix fun _ => ?_ | refine Le.loop fun _ => ?_ | refine Le.delP (fun _ => ?_) _ | refine Le.delC (fun _ _ => ?_) _ _ | refine Le.sum (fun _ => ?_) (fun _ => ?_) | intro _)
def cSlicesContainsFuncString (fuel : Nat) (sA : List (List UInt8)) (f : (List UInt8) → Option Bool) : Option Bool :=
 bd ((cSlicesIndexFuncString fuel) sA f) fun rA =>
 some (decide ((0 : Int) ≤ rA))
theorem leSlicesContainsFuncString (fuel : Nat) (sA : List (List UInt8)) (f fA : (List UInt8) → Option Bool) (hf : ∀ u0, Le (f u0) (fA u0)) : Le (cSlicesContainsFuncString fuel sA f) (tSlicesContainsFuncString sA fA) := by
  unfold cSlicesContainsFuncString tSlicesContainsFuncString
  repeat' (first | exact Le.rfl' _ | apply leSlicesIndexFuncString | exact hf _ _ _ | exact hf _ _ | exact hf _ | exact hf | refine Le.bd ?_ fun _ => ?_ | refine Le.ite ?_ ?_ | refine Le.ix fun _ => ?_ | refine Le.loop fun _ => ?_ | refine Le.delP (fun _ => ?_) _ | refine Le.delC (fun _ _ => ?_) _ _ | refine Le.sum (fun _ => ?_) (fun _ => ?_) | intro _)
def cPathInner (fuel : Nat) (p : List UInt8) : Option ((List (List UInt8)) × Bool) :=
 bd ((cStringsCutPrefix fuel) p ([47] : List UInt8)) fun rA =>
 bd (
   if !rA.2 then
   some true
   else
   some (decide ((100 : Int) < (p.length : Int))) : Option Bool) fun w =>
 if w then
 some (([] : List (List UInt8)), false)
 else
 if rA.1 = ([] : List UInt8) then
 some (([] : List (List UInt8)), true)
 else
 bd (tSplit rA.1 ([47] : List UInt8)) fun rA1 =>
 bd (
   if (rA1.length : Int) ≤ 8 then
   bd ((cSlicesContainsFuncString fuel) rA1 (cPathInnerF1 fuel)) fun rA2 =>
   some (rA1, !rA2, rA1)
   else
   some (rA1, false, rA1) : Option ((List (List UInt8)) × Bool × (List (List UInt8)))) fun w1 =>
 some (w1.2.2, w1.2.1)
theorem lePathInner (fuel : Nat) (p : List UInt8) : Le (cPathInner fuel p) (tPathInner p) := by
  unfold cPathInner tPathInner
  repeat' (first | exact Le.rfl' _ | apply leStringsCutPrefix | apply lePathInnerF1 | apply leSlicesContainsFuncString | refine Le.bd ?_ fun _ => ?_ | refine Le.ite ?_ ?_ | refine Le.ix fun _ => ?_ | refine Le.loop fun _ => ?_ | refine Le.delP (fun _ => ?_) _ | refine Le.delC (fun _ _ => ?_) _ _ | refine Le.sum (fun _ => ?_) (fun _ => ?_) | intro _)
def cPathRight (fuel : Nat) (p : List UInt8) : Option Bool :=
 bd ((cPathInner fuel) p) fun rA =>
 some rA.2
theorem lePathRight (fuel : Nat) (p : List UInt8) : Le (cPathRight fuel p) (tPathRight p) := by
  unfold cPathRight tPathRight
  repeat' (first | exact Le.rfl' _ | apply lePathInner | refine Le.bd ?_ fun _ => ?_ | refine Le.ite ?_ ?_ | refine Le.ix fun _ => ?_ | refine Le.loop fun _ => ?_ | refine Le.delP (fun _ => ?_) _ | refine Le.delC (fun _ _ => ?_) _ _ | refine Le.sum (fun _ => ?_) (fun _ => ?_) | intro _)
def cBytealgLastIndexByteStringL1 (fuel : Nat) (sA : List UInt8) (c : Int) (st : Int) : Option (Int ⊕ (Unit ⊕ Int)) :=
 if (0 : Int) ≤ st then
 if (0 : Int) ≤ st ∧ st < (sA.length : Int) then
 if ((sA.getD (Int.toNat st) 0).toNat : Int) = c then
 some (.inr (.inr st))
 else
 some (.inl (IntKind.wrap .i64 (st - 1)))
 else none
 else
 some (.inr (.inl ()))
theorem leBytealgLastIndexByteStringL1 (fuel : Nat) (sA : List UInt8) (c : Int) (st : Int) : Le (cBytealgLastIndexByteStringL1 fuel sA c st) (tBytealgLastIndexByteStringL1 sA c st) := by
  unfold cBytealgLastIndexByteStringL1 tBytealgLastIndexByteStringL1
  repeat' (first | exact Le.rfl' _ | refine Le.bd ?_ fun _ => ?_ | refine Le.ite ?_ ?_ | refine Le.ix fun _ => ?_ | refine Le.loop fun _ => ?_ | refine Le.delP (fun _ => ?_) _ | refine Le.delC (fun _ _ => ?_) _ _ | refine Le.sum (fun _ => ?_) (fun _ => ?_) | intro _)
def cBytealgLastIndexByteString (fuel : Nat) (sA : List UInt8) (c : Int) : Option Int :=
 bd (LoopC fuel ((cBytealgLastIndexByteStringL1 fuel) sA c) (IntKind.wrap .i64 ((sA.length : Int) - 1))) fun w =>
 match w with
 | .inl p1 =>
   some (-1)
 | .inr p2 =>
   some p2
theorem leBytealgLastIndexByteString (fuel : Nat) (sA : List UInt8) (c : Int) : Le (cBytealgLastIndexByteString fuel sA c) (tBytealgLastIndexByteString sA c) := by
  unfold cBytealgLastIndexByteString tBytealgLastIndexByteString
  repeat' (first | exact Le.rfl' _ | apply leBytealgLastIndexByteStringL1 | refine Le.bd ?_ fun _ => ?_ | refine Le.ite ?_ ?_ | refine Le.ix fun _ => ?_ | refine Le.loop fun _ => ?_ | refine Le.delP (fun _ => ?_) _ | refine Le.delC (fun _ _ => ?_) _ _ | refine Le.sum (fun _ => ?_) (fun _ => ?_) | intro _)
def cBytealgHashStrRevStringL1 (fuel : Nat) (sep : List UInt8) (st : Int × Int) : Option ((Int × Int) ⊕ Int) :=
 if (0 : Int) ≤ st.2 then
 if (0 : Int) ≤ st.2 ∧ st.2 < (sep.length : Int) then
 some (.inl (IntKind.wrap .u32 ((IntKind.wrap .u32 (st.1 * 16777619)) + (IntKind.wrap .u32 ((sep.getD (Int.toNat st.2) 0).toNat : Int))), IntKind.wrap .i64 (st.2 - 1)))
 else none
 else
 some (.inr st.1)
theorem leBytealgHashStrRevStringL1 (fuel : Nat) (sep : List UInt8) (st : Int × Int) : Le (cBytealgHashStrRevStringL1 fuel sep st) (tBytealgHashStrRevStringL1 sep st) := by
  unfold cBytealgHashStrRevStringL1 tBytealgHashStrRevStringL1
  repeat' (first | exact Le.rfl' _ | refine Le.bd ?_ fun _ => ?_ | refine Le.ite ?_ ?_ | refine Le.ix fun _ => ?_ | refine Le.loop fun _ => ?_ | refine Le.delP (fun _ => ?_) _ | refine Le.delC (fun _ _ => ?_) _ _ | refine Le.sum (fun _ => ?_) (fun _ => ?_) | intro _)
def cBytealgHashStrRevStringL2 (fuel : Nat) (st1 : Int × Int × Int) : Option ((Int × Int × Int) ⊕ Int) :=
 if (0 : Int) < st1.2.2 then
 none
 else
 some (.inr st1.1)
theorem leBytealgHashStrRevStringL2 (fuel : Nat) (st1 : Int × Int × Int) : Le (cBytealgHashStrRevStringL2 fuel st1) (tBytealgHashStrRevStringL2 st1) := by
  unfold cBytealgHashStrRevStringL2 tBytealgHashStrRevStringL2
  repeat' (first | exact Le.rfl' _ | refine Le.bd ?_ fun _ => ?_ | refine Le.ite ?_ ?_ | refine Le.ix fun _ => ?_ | refine Le.loop fun _ => ?_ | refine Le.delP (fun _ => ?_) _ | refine Le.delC (fun _ _ => ?_) _ _ | refine Le.sum (fun _ => ?_) (fun _ => ?_) | intro _)
def cBytealgHashStrRevString (fuel : Nat) (sep : List UInt8) : Option (Int × Int) :=
 bd (LoopC fuel ((cBytealgHashStrRevStringL1 fuel) sep) (0, IntKind.wrap .i64 ((sep.length : Int) - 1))) fun w =>
 bd (LoopC fuel (cBytealgHashStrRevStringL2 fuel) (1, 16777619, (sep.length : Int))) fun w1 =>
 some (w, w1)
theorem leBytealgHashStrRevString (fuel : Nat) (sep : List UInt8) : Le (cBytealgHashStrRevString fuel sep) (tBytealgHashStrRevString sep) := by
  unfold cBytealgHashStrRevString tBytealgHashStrRevString
  repeat' (first | exact Le.rfl' _ | apply leBytealgHashStrRevStringL1 | apply leBytealgHashStrRevStringL2 | refine Le.bd ?_ fun _ => ?_ | refine Le.ite ?_ ?_ | refine Le.ix fun _ => ?_ | refine Le.loop fun _ => ?_ | refine Le.delP (fun _ => ?_) _ | refine Le.delC (fun _ _ => ?_) _ _ | refine Le.sum (fun _ => ?_) (fun _ => ?_) | intro _)
def cBytealgLastIndexRabinKarpStringL1 (fuel : Nat) (a : List UInt8) (a1 : List UInt8) (st : Int × Int) : Option ((Int × Int) ⊕ Int) :=
 if (IntKind.wrap .i64 ((a.length : Int) - (a1.length : Int))) ≤ st.2 then
 if (0 : Int) ≤ st.2 ∧ st.2 < (a.length : Int) then
 some (.inl (IntKind.wrap .u32 ((IntKind.wrap .u32 (st.1 * 16777619)) + (IntKind.wrap .u32 ((a.getD (Int.toNat st.2) 0).toNat : Int))), IntKind.wrap .i64 (st.2 - 1)))
 else none
 else
 some (.inr st.1)
theorem leBytealgLastIndexRabinKarpStringL1 (fuel : Nat) (a : List UInt8) (a1 : List UInt8) (st : Int × Int) : Le (cBytealgLastIndexRabinKarpStringL1 fuel a a1 st) (tBytealgLastIndexRabinKarpStringL1 a a1 st) := by
  unfold cBytealgLastIndexRabinKarpStringL1 tBytealgLastIndexRabinKarpStringL1
  repeat' (first | exact Le.rfl' _ | refine Le.bd ?_ fun _ => ?_ | refine Le.ite ?_ ?_ | refine Le.ix fun _ => ?_ | refine Le.loop fun _ => ?_ | refine Le.delP (fun _ => ?_) _ | refine Le.delC (fun _ _ => ?_) _ _ | refine Le.sum (fun _ => ?_) (fun _ => ?_) | intro _)
def cBytealgLastIndexRabinKarpStringL2 (fuel : Nat) (a : List UInt8) (a1 : List UInt8) (rA : Int × Int) (st1 : Int × Int) : Option ((Int × Int) ⊕ (Unit ⊕ Int)) :=
 if (0 : Int) ≤ st1.2 then
 if (0 : Int) ≤ st1.2 ∧ st1.2 < (a.length : Int) then
 if (0 : Int) ≤ (IntKind.wrap .i64 (st1.2 + (a1.length : Int))) ∧ (IntKind.wrap .i64 (st1.2 + (a1.length : Int))) < (a.length : Int) then
 bd (
   if (IntKind.wrap .u32 ((IntKind.wrap .u32 ((IntKind.wrap .u32 (st1.1 * 16777619)) + (IntKind.wrap .u32 ((a.getD (Int.toNat st1.2) 0).toNat : Int)))) - (IntKind.wrap .u32 (rA.2 * (IntKind.wrap .u32 ((a.getD (Int.toNat (IntKind.wrap .i64 (st1.2 + (a1.length : Int)))) 0).toNat : Int)))))) = rA.1 then
   if (0 : Int) ≤ st1.2 ∧ st1.2 ≤ (IntKind.wrap .i64 (st1.2 + (a1.length : Int))) ∧ (IntKind.wrap .i64 (st1.2 + (a1.length : Int))) ≤ (a.length : Int) then
   some (decide ((List.drop (Int.toNat st1.2) (List.take (Int.toNat (IntKind.wrap .i64 (st1.2 + (a1.length : Int)))) a)) = a1))
   else none
   else
   some false : Option Bool) fun w3 =>
 if w3 then
 some (.inr (.inr st1.2))
 else
 some (.inl (IntKind.wrap .u32 ((IntKind.wrap .u32 ((IntKind.wrap .u32 (st1.1 * 16777619)) + (IntKind.wrap .u32 ((a.getD (Int.toNat st1.2) 0).toNat : Int)))) - (IntKind.wrap .u32 (rA.2 * (IntKind.wrap .u32 ((a.getD (Int.toNat (IntKind.wrap .i64 (st1.2 + (a1.length : Int)))) 0).toNat : Int))))), IntKind.wrap .i64 (st1.2 - 1)))
 else none
 else none
 else
 some (.inr (.inl ()))
theorem leBytealgLastIndexRabinKarpStringL2 (fuel : Nat) (a : List UInt8) (a1 : List UInt8) (rA : Int × Int) (st1 : Int × Int) : Le (cBytealgLastIndexRabinKarpStringL2 fuel a a1 rA st1) (tBytealgLastIndexRabinKarpStringL2 a a1 rA st1) := by
  unfold cBytealgLastIndexRabinKarpStringL2 tBytealgLastIndexRabinKarpStringL2
  repeat' (first | exact Le.rfl' _ | refine Le.bd ?_ fun _ => ?_ | refine Le.ite ?_ ?_ | refine Le.ix fun _ => ?_ | refine Le.loop fun _ => ?_ | refine Le.delP (fun _ => ?_) _ | refine Le.delC (fun _ _ => ?_) _ _ | refine Le.sum (fun _ => ?_) (fun _ => ?_) | intro _)
def cBytealgLastIndexRabinKarpString (fuel : Nat) (a : List UInt8) (a1 : List UInt8) : Option Int :=
 bd ((cBytealgHashStrRevString fuel) a1) fun rA =>
 bd (LoopC fuel ((cBytealgLastIndexRabinKarpStringL1 fuel) a a1) (0, IntKind.wrap .i64 ((a.length : Int) - 1))) fun w =>
 bd (
   if w = rA.1 then
   if (0 : Int) ≤ (IntKind.wrap .i64 ((a.length : Int) - (a1.length : Int))) ∧ (IntKind.wrap .i64 ((a.length : Int) - (a1.length : Int))) ≤ (a.length : Int) ∧ (a.length : Int) ≤ (a.length : Int) then
   some (decide ((List.drop (Int.toNat (IntKind.wrap .i64 ((a.length : Int) - (a1.length : Int)))) (List.take (Int.toNat (a.length : Int)) a)) = a1))
   else none
   else
   some false : Option Bool) fun w1 =>
 if w1 then
 some (IntKind.wrap .i64 ((a.length : Int) - (a1.length : Int)))
 else
 bd (LoopC fuel ((cBytealgLastIndexRabinKarpStringL2 fuel) a a1 rA) (w, IntKind.wrap .i64 ((IntKind.wrap .i64 ((a.length : Int) - (a1.length : Int))) - 1))) fun w2 =>
 match w2 with
 | .inl p2 =>
   some (-1)
 | .inr p3 =>
   some p3
theorem leBytealgLastIndexRabinKarpString (fuel : Nat) (a : List UInt8) (a1 : List UInt8) : Le (cBytealgLastIndexRabinKarpString fuel a a1) (tBytealgLastIndexRabinKarpString a a1) := by
  unfold cBytealgLastIndexRabinKarpString tBytealgLastIndexRabinKarpString
  repeat' (first | exact Le.rfl' _ | apply leBytealgHashStrRevString | apply leBytealgLastIndexRabinKarpStringL1 | apply leBytealgLastIndexRabinKarpStringL2 | refine Le.bd ?_ fun _ => ?_ | refine Le.ite ?_ ?_ | refine Le.ix fun _ => ?_ | refine Le.loop fun _ => ?_ | refine Le.delP (fun _ => ?_) _ | refine Le.delC (fun _ _ => ?_) _ _ | refine Le.sum (fun _ => ?_) (fun _ => ?_) | intro _)
def cStringsLastIndex (fuel : Nat) (sA : List UInt8) (substr : List UInt8) : Option Int :=
 if (substr.length : Int) = 0 then
 some (sA.length : Int)
 else
 if (substr.length : Int) = 1 then
 if (0 : Int) ≤ 0 ∧ (0 : Int) < (substr.length : Int) then
 bd ((cBytealgLastIndexByteString fuel) sA ((substr.getD (Int.toNat 0) 0).toNat : Int)) fun rA =>
 some rA
 else none
 else
 if (substr.length : Int) = (sA.length : Int) then
 if substr = sA then
 some 0
 else
 some (-1)
 else
 if (sA.length : Int) < (substr.length : Int) then
 some (-1)
 else
 bd ((cBytealgLastIndexRabinKarpString fuel) sA substr) fun rA1 =>
 some rA1
theorem leStringsLastIndex (fuel : Nat) (sA : List UInt8) (substr : List UInt8) : Le (cStringsLastIndex fuel sA substr) (tStringsLastIndex sA substr) := by
  unfold cStringsLastIndex tStringsLastIndex
  repeat' (first | exact Le.rfl' _ | apply leBytealgLastIndexByteString | apply leBytealgLastIndexRabinKarpString | refine Le.bd ?_ fun _ => ?_ | refine Le.ite ?_ ?_ | refine Le.ix fun _ => ?_ | refine Le.loop fun _ => ?_ | refine Le.delP (fun _ => ?_) _ | refine Le.delC (fun _ _ => ?_) _ _ | refine Le.sum (fun _ => ?_) (fun _ => ?_) | intro _)
def cPathParent (fuel : Nat) (p : List UInt8) : Option ((List UInt8) × Int) :=
 bd ((cPathRight fuel) p) fun rA =>
 if !rA then
 some (([] : List UInt8), 13)
 else
 if p = ([47] : List UInt8) then
 some (([] : List UInt8), 6)
 else
 bd ((cStringsLastIndex fuel) p ([47] : List UInt8)) fun rA1 =>
 if (0 : Int) ≤ 0 ∧ (0 : Int) ≤ (imax 1 rA1) ∧ (imax 1 rA1) ≤ (p.length : Int) then
 some (List.drop (Int.toNat 0) (List.take (Int.toNat (imax 1 rA1)) p), 0)
 else none
theorem lePathParent (fuel : Nat) (p : List UInt8) : Le (cPathParent fuel p) (tPathParent p) := by
  unfold cPathParent tPathParent
  repeat' (first | exact Le.rfl' _ | apply lePathRight | apply leStringsLastIndex | refine Le.bd ?_ fun _ => ?_ | refine Le.ite ?_ ?_ | refine Le.ix fun _ => ?_ | refine Le.loop fun _ => ?_ | refine Le.delP (fun _ => ?_) _ | refine Le.delC (fun _ _ => ?_) _ _ | refine Le.sum (fun _ => ?_) (fun _ => ?_) | intro _)
def cCmpIsNaNString (fuel : Nat) (x : List UInt8) : Option Bool :=
 some (!decide (x = x))
theorem leCmpIsNaNString (fuel : Nat) (x : List UInt8) : Le (cCmpIsNaNString fuel x) (tCmpIsNaNString x) := by
  unfold cCmpIsNaNString tCmpIsNaNString
  repeat' (first | exact Le.rfl' _ | refine Le.bd ?_ fun _ => ?_ | refine Le.ite ?_ ?_ | refine Le.ix fun _ => ?_ | refine Le.loop fun _ => ?_ | refine Le.delP (fun _ => ?_) _ | refine Le.delC (fun _ _ => ?_) _ _ | refine Le.sum (fun _ => ?_) (fun _ => ?_) | intro _)
def cCmpCompareString (fuel : Nat) (x : List UInt8) (y : List UInt8) : Option Int :=
 bd ((cCmpIsNaNString fuel) x) fun rA =>
 bd ((cCmpIsNaNString fuel) y) fun rA1 =>
 if rA then
 if rA1 then
 some 0
 else
 some (-1)
 else
 if rA1 then
 some 1
 else
 if Op.bytesLess x y then
 some (-1)
 else
 if !(Op.bytesLess x y || decide (x = y)) then
 some 1
 else
 some 0
theorem leCmpCompareString (fuel : Nat) (x : List UInt8) (y : List UInt8) : Le (cCmpCompareString fuel x y) (tCmpCompareString x y) := by
  unfold cCmpCompareString tCmpCompareString
  repeat' (first | exact Le.rfl' _ | apply leCmpIsNaNString | refine Le.bd ?_ fun _ => ?_ | refine Le.ite ?_ ?_ | refine Le.ix fun _ => ?_ | refine Le.loop fun _ => ?_ | refine Le.delP (fun _ => ?_) _ | refine Le.delC (fun _ _ => ?_) _ _ | refine Le.sum (fun _ => ?_) (fun _ => ?_) | intro _)
def cSlicesCompareStringL1 (fuel : Nat) (s1 : List (List UInt8)) (s2 : List (List UInt8)) (st : Int) : Option (Int ⊕ (Unit ⊕ Int)) :=
 if st < (s1.length : Int) then
 ix s1 st fun y =>
 if (s2.length : Int) ≤ st then
 some (.inr (.inr 1))
 else
 ix s2 st fun y1 =>
 bd ((cCmpCompareString fuel) y y1) fun rA =>
 if !decide (rA = 0) then
 some (.inr (.inr rA))
 else
 some (.inl (IntKind.wrap .i64 (st + 1)))
 else
 some (.inr (.inl ()))
theorem leSlicesCompareStringL1 (fuel : Nat) (s1 : List (List UInt8)) (s2 : List (List UInt8)) (st : Int) : Le (cSlicesCompareStringL1 fuel s1 s2 st) (tSlicesCompareStringL1 s1 s2 st) := by
  unfold cSlicesCompareStringL1 tSlicesCompareStringL1
  repeat' (first | exact Le.rfl' _ | apply leCmpCompareString | refine Le.bd ?_ fun _ => ?_ | refine Le.ite ?_ ?_ | refine Le.ix fun _ => ?_ | refine Le.loop fun _ => ?_ | refine Le.delP (fun _ => ?_) _ | refine Le.delC (fun _ _ => ?_) _ _ | refine Le.sum (fun _ => ?_) (fun _ => ?_) | intro _)
def cSlicesCompareString (fuel : Nat) (s1 : List (List UInt8)) (s2 : List (List UInt8)) : Option Int :=
 bd (LoopC fuel ((cSlicesCompareStringL1 fuel) s1 s2) 0) fun w =>
 match w with
 | .inl p1 =>
   if (s1.length : Int) < (s2.length : Int) then
   some (-1)
   else
   some 0
 | .inr p2 =>
   some p2
theorem leSlicesCompareString (fuel : Nat) (s1 : List (List UInt8)) (s2 : List (List UInt8)) : Le (cSlicesCompareString fuel s1 s2) (tSlicesCompareString s1 s2) := by
  unfold cSlicesCompareString tSlicesCompareString
  repeat' (first | exact Le.rfl' _ | apply leSlicesCompareStringL1 | refine Le.bd ?_ fun _ => ?_ | refine Le.ite ?_ ?_ | refine Le.ix fun _ => ?_ | refine Le.loop fun _ => ?_ | refine Le.delP (fun _ => ?_) _ | refine Le.delC (fun _ _ => ?_) _ _ | refine Le.sum (fun _ => ?_) (fun _ => ?_) | intro _)
def cPathAhead (fuel : Nat) (p : List UInt8) (q : List UInt8) : Option Bool :=
 bd ((cPathInner fuel) p) fun rA =>
 bd ((cPathInner fuel) q) fun rA1 =>
 bd (
   if rA.2 then
   if rA1.2 then
   bd ((cSlicesCompareString fuel) rA.1 rA1.1) fun rA2 =>
   some (decide (rA2 < 0))
   else
   some false
   else
   some false : Option Bool) fun w =>
 some w
theorem lePathAhead (fuel : Nat) (p : List UInt8) (q : List UInt8) : Le (cPathAhead fuel p q) (tPathAhead p q) := by
  unfold cPathAhead tPathAhead
  repeat' (first | exact Le.rfl' _ | apply lePathInner | apply leSlicesCompareString | refine Le.bd ?_ fun _ => ?_ | refine Le.ite ?_ ?_ | refine Le.ix fun _ => ?_ | refine Le.loop fun _ => ?_ | refine Le.delP (fun _ => ?_) _ | refine Le.delC (fun _ _ => ?_) _ _ | refine Le.sum (fun _ => ?_) (fun _ => ?_) | intro _)
def cL08Alive (fuel : Nat) : Option Bool :=
 bd ((cPathParent fuel) ([47, 97, 47, 98] : List UInt8)) fun rA =>
 bd ((cPathParent fuel) ([47] : List UInt8)) fun rA1 =>
 bd (
   if rA.1 = ([47, 97] : List UInt8) then
   if rA.2 = 0 then
   if rA1.2 = 6 then
   bd ((cPathRight fuel) ([47] : List UInt8)) fun rA2 =>
   if rA2 then
   bd ((cPathRight fuel) ([97] : List UInt8)) fun rA3 =>
   if !rA3 then
   bd ((cPathAhead fuel) ([47, 97, 47, 98] : List UInt8) ([47, 97, 45, 98] : List UInt8)) fun rA4 =>
   some rA4
   else
   some false
   else
   some false
   else
   some false
   else
   some false
   else
   some false : Option Bool) fun w =>
 some w
theorem leL08Alive (fuel : Nat) : Le (cL08Alive fuel) (tL08Alive) := by
  unfold cL08Alive tL08Alive
  repeat' (first | exact Le.rfl' _ | apply lePathRight | apply lePathParent | apply lePathAhead | refine Le.bd ?_ fun _ => ?_ | refine Le.ite ?_ ?_ | refine Le.ix fun _ => ?_ | refine Le.loop fun _ => ?_ | refine Le.delP (fun _ => ?_) _ | refine Le.delC (fun _ _ => ?_) _ _ | refine Le.sum (fun _ => ?_) (fun _ => ?_) | intro _)
def cWatchTouches (fuel : Nat) (c : WatchChange) (w : WatchWatch) : Option Bool :=
 bd (
   if c.Kind < 1 then
   some true
   else
   if (3 : Int) < c.Kind then
   some true
   else
   bd ((cPathRight fuel) c.Path) fun rA =>
   some (!rA) : Option Bool) fun w1 =>
 if w1 then
 some false
 else
 if !w.Kids then
 some (decide (c.Path = w.Path))
 else
 bd ((cPathParent fuel) c.Path) fun rA1 =>
 bd (
   if rA1.2 = 0 then
   if !decide (c.Kind = 2) then
   some (decide (rA1.1 = w.Path))
   else
   some false
   else
   some false : Option Bool) fun w2 =>
 some w2
theorem leWatchTouches (fuel : Nat) (c : WatchChange) (w : WatchWatch) : Le (cWatchTouches fuel c w) (tWatchTouches c w) := by
  unfold cWatchTouches tWatchTouches
  repeat' (first | exact Le.rfl' _ | apply lePathRight | apply lePathParent | refine Le.bd ?_ fun _ => ?_ | refine Le.ite ?_ ?_ | refine Le.ix fun _ => ?_ | refine Le.loop fun _ => ?_ | refine Le.delP (fun _ => ?_) _ | refine Le.delC (fun _ _ => ?_) _ _ | refine Le.sum (fun _ => ?_) (fun _ => ?_) | intro _)
def cWatchFireF1 (fuel : Nat) (w : WatchWatch) (c : WatchChange) (c1 : List WatchEvent) : Option (Bool × (List WatchEvent)) :=
 bd ((cWatchTouches fuel) c w) fun rA =>
 bd (
   if rA then
   if (c1.length + ([(⟨w, c⟩ : WatchEvent)] : List WatchEvent).length) * 56 ≤ 2 ^ 46 then
   some (c1 ++ ([(⟨w, c⟩ : WatchEvent)] : List WatchEvent))
   else none
   else
   some c1 : Option (List WatchEvent)) fun w1 =>
 some (rA, w1)
theorem leWatchFireF1 (fuel : Nat) (w : WatchWatch) (c : WatchChange) (c1 : List WatchEvent) : Le (cWatchFireF1 fuel w c c1) (tWatchFireF1 w c c1) := by
  unfold cWatchFireF1 tWatchFireF1
  repeat' (first | exact Le.rfl' _ | apply leWatchTouches | refine Le.bd ?_ fun _ => ?_ | refine Le.ite ?_ ?_ | refine Le.ix fun _ => ?_ | refine Le.loop fun _ => ?_ | refine Le.delP (fun _ => ?_) _ | refine Le.delC (fun _ _ => ?_) _ _ | refine Le.sum (fun _ => ?_) (fun _ => ?_) | intro _)
def cWatchFireL1 (fuel : Nat) (lA : List WatchChange) (st : (List WatchWatch) × (List WatchEvent) × Int) : Option (((List WatchWatch) × (List WatchEvent) × Int) ⊕ ((List WatchWatch) × (List WatchEvent))) :=
 if st.2.2 < (lA.length : Int) then
 ix lA st.2.2 fun y =>
 bd (tDelC (fun u sA => (cWatchFireF1 fuel) u y sA) st.2.1 st.1) fun rA1 =>
 some (.inl (rA1.1, rA1.2, IntKind.wrap .i64 (st.2.2 + 1)))
 else
 some (.inr (st.1, st.2.1))
theorem leWatchFireL1 (fuel : Nat) (lA : List WatchChange) (st : (List WatchWatch) × (List WatchEvent) × Int) : Le (cWatchFireL1 fuel lA st) (tWatchFireL1 lA st) := by
  unfold cWatchFireL1 tWatchFireL1
  repeat' (first | exact Le.rfl' _ | apply leWatchFireF1 | refine Le.bd ?_ fun _ => ?_ | refine Le.ite ?_ ?_ | refine Le.ix fun _ => ?_ | refine Le.loop fun _ => ?_ | refine Le.delP (fun _ => ?_) _ | refine Le.delC (fun _ _ => ?_) _ _ | refine Le.sum (fun _ => ?_) (fun _ => ?_) | intro _)
def cWatchFire (fuel : Nat) (t : WatchTable) (lA : List WatchChange) : Option (WatchTable × (List WatchEvent)) :=
 bd (tClone 32 t.L) fun rA =>
 bd (LoopC fuel ((cWatchFireL1 fuel) lA) (rA, ([] : List WatchEvent), 0)) fun w =>
 some ((⟨w.1⟩ : WatchTable), w.2)
theorem leWatchFire (fuel : Nat) (t : WatchTable) (lA : List WatchChange) : Le (cWatchFire fuel t lA) (tWatchFire t lA) := by
  unfold cWatchFire tWatchFire
  repeat' (first | exact Le.rfl' _ | apply leWatchFireL1 | refine Le.bd ?_ fun _ => ?_ | refine Le.ite ?_ ?_ | refine Le.ix fun _ => ?_ | refine Le.loop fun _ => ?_ | refine Le.delP (fun _ => ?_) _ | refine Le.delC (fun _ _ => ?_) _ _ | refine Le.sum (fun _ => ?_) (fun _ => ?_) | intro _)
def cSlicesIndexWatchWatchL1 (fuel : Nat) (sA : List WatchWatch) (v : WatchWatch) (st : Int) : Option (Int ⊕ (Unit ⊕ Int)) :=
 if st < (sA.length : Int) then
 ix sA st fun y =>
 if ((decide (v.Path = y.Path)) && ((decide (v.Client = y.Client)) && (decide (v.Kids = y.Kids)))) then
 some (.inr (.inr st))
 else
 some (.inl (IntKind.wrap .i64 (st + 1)))
 else
 some (.inr (.inl ()))
theorem leSlicesIndexWatchWatchL1 (fuel : Nat) (sA : List WatchWatch) (v : WatchWatch) (st : Int) : Le (cSlicesIndexWatchWatchL1 fuel sA v st) (tSlicesIndexWatchWatchL1 sA v st) := by
  unfold cSlicesIndexWatchWatchL1 tSlicesIndexWatchWatchL1
  repeat' (first | exact Le.rfl' _ | refine Le.bd ?_ fun _ => ?_ | refine Le.ite ?_ ?_ | refine Le.ix fun _ => ?_ | refine Le.loop fun _ => ?_ | refine Le.delP (fun _ => ?_) _ | refine Le.delC (fun _ _ => ?_) _ _ | refine Le.sum (fun _ => ?_) (fun _ => ?_) | intro _)
def cSlicesIndexWatchWatch (fuel : Nat) (sA : List WatchWatch) (v : WatchWatch) : Option Int :=
 bd (LoopC fuel ((cSlicesIndexWatchWatchL1 fuel) sA v) 0) fun w =>
 match w with
 | .inl p1 =>
   some (-1)
 | .inr p2 =>
   some p2
theorem leSlicesIndexWatchWatch (fuel : Nat) (sA : List WatchWatch) (v : WatchWatch) : Le (cSlicesIndexWatchWatch fuel sA v) (tSlicesIndexWatchWatch sA v) := by
  unfold cSlicesIndexWatchWatch tSlicesIndexWatchWatch
  repeat' (first | exact Le.rfl' _ | apply leSlicesIndexWatchWatchL1 | refine Le.bd ?_ fun _ => ?_ | refine Le.ite ?_ ?_ | refine Le.ix fun _ => ?_ | refine Le.loop fun _ => ?_ | refine Le.delP (fun _ => ?_) _ | refine Le.delC (fun _ _ => ?_) _ _ | refine Le.sum (fun _ => ?_) (fun _ => ?_) | intro _)
def cSlicesContainsWatchWatch (fuel : Nat) (sA : List WatchWatch) (v : WatchWatch) : Option Bool :=
 bd ((cSlicesIndexWatchWatch fuel) sA v) fun rA =>
 some (decide ((0 : Int) ≤ rA))
theorem leSlicesContainsWatchWatch (fuel : Nat) (sA : List WatchWatch) (v : WatchWatch) : Le (cSlicesContainsWatchWatch fuel sA v) (tSlicesContainsWatchWatch sA v) := by
  unfold cSlicesContainsWatchWatch tSlicesContainsWatchWatch
  repeat' (first | exact Le.rfl' _ | apply leSlicesIndexWatchWatch | refine Le.bd ?_ fun _ => ?_ | refine Le.ite ?_ ?_ | refine Le.ix fun _ => ?_ | refine Le.loop fun _ => ?_ | refine Le.delP (fun _ => ?_) _ | refine Le.delC (fun _ _ => ?_) _ _ | refine Le.sum (fun _ => ?_) (fun _ => ?_) | intro _)
def cWatchAdd (fuel : Nat) (t : WatchTable) (w : WatchWatch) : Option (WatchTable × Int) :=
 bd ((cPathRight fuel) w.Path) fun rA =>
 if !rA then
 some (t, 13)
 else
 if w.Client < 0 then
 some (t, 1)
 else
 bd ((cSlicesContainsWatchWatch fuel) t.L w) fun rA1 =>
 if rA1 then
 some (t, 0)
 else
 if (200 : Int) ≤ (t.L.length : Int) then
 some (t, 9)
 else
 bd (tClone 32 t.L) fun rA2 =>
 if (rA2.length + ([w] : List WatchWatch).length) * 32 ≤ 2 ^ 46 then
 some ((⟨rA2 ++ ([w] : List WatchWatch)⟩ : WatchTable), 0)
 else none
theorem leWatchAdd (fuel : Nat) (t : WatchTable) (w : WatchWatch) : Le (cWatchAdd fuel t w) (tWatchAdd t w) := by
  unfold cWatchAdd tWatchAdd
  repeat' (first | exact Le.rfl' _ | apply lePathRight | apply leSlicesContainsWatchWatch | refine Le.bd ?_ fun _ => ?_ | refine Le.ite ?_ ?_ | refine Le.ix fun _ => ?_ | refine Le.loop fun _ => ?_ | refine Le.delP (fun _ => ?_) _ | refine Le.delC (fun _ _ => ?_) _ _ | refine Le.sum (fun _ => ?_) (fun _ => ?_) | intro _)
def cL11Alive (fuel : Nat) : Option Bool :=
 bd ((cWatchAdd fuel) (⟨([] : List WatchWatch)⟩ : WatchTable) (⟨([47, 97] : List UInt8), 1, true⟩ : WatchWatch)) fun rA =>
 bd ((cWatchFire fuel) rA.1 ([(⟨2, ([47, 97, 47, 98] : List UInt8)⟩ : WatchChange), (⟨1, ([47, 97, 47, 98] : List UInt8)⟩ : WatchChange)] : List WatchChange)) fun rA1 =>
 bd (
   if rA.2 = 0 then
   if (rA.1.L.length : Int) = 1 then
   if (rA1.1.L.length : Int) = 0 then
   if (rA1.2.length : Int) = 1 then
   ix rA1.2 0 fun y =>
   some (decide (y.C.Kind = 1))
   else
   some false
   else
   some false
   else
   some false
   else
   some false : Option Bool) fun w =>
 some w
theorem leL11Alive (fuel : Nat) : Le (cL11Alive fuel) (tL11Alive) := by
  unfold cL11Alive tL11Alive
  repeat' (first | exact Le.rfl' _ | apply leWatchFire | apply leWatchAdd | refine Le.bd ?_ fun _ => ?_ | refine Le.ite ?_ ?_ | refine Le.ix fun _ => ?_ | refine Le.loop fun _ => ?_ | refine Le.delP (fun _ => ?_) _ | refine Le.delC (fun _ _ => ?_) _ _ | refine Le.sum (fun _ => ?_) (fun _ => ?_) | intro _)
theorem evL08Alive : tL08Alive = some true := leL08Alive 200 _ (by decide +kernel)
theorem evL11Alive : tL11Alive = some true := leL11Alive 200 _ (by decide +kernel)
end Dn.S
