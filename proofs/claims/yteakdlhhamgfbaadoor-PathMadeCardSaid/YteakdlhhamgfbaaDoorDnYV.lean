import Derived.Test.YteakdlhhamgfbaaDoorDnYT
import Derived.Test.YteakdlhhamgfbaaDoorDnD
/-
  The functions, with a bound on their rounds. Conditions: none.
-/
open Go Dn
set_option linter.unusedVariables false
set_option linter.unusedSimpArgs false
set_option maxRecDepth 100000
namespace Dn.S
def cStringsliteHasPrefix (n : Nat) (sA : List UInt8) (prefixA : List UInt8) : Option Bool :=
 bd (
   if (prefixA.length : Int) ≤ (sA.length : Int) then
   if (0 : Int) ≤ 0 ∧ (0 : Int) ≤ (prefixA.length : Int) ∧ (prefixA.length : Int) ≤ (sA.length : Int) then
   some (decide ((List.drop (Int.toNat 0) (List.take (Int.toNat (prefixA.length : Int)) sA)) = prefixA))
   else none
   else
   some false : Option Bool) fun w =>
 some w
theorem leStringsliteHasPrefix (n : Nat) (sA : List UInt8) (prefixA : List UInt8) : Le (cStringsliteHasPrefix n sA prefixA) (tStringsliteHasPrefix sA prefixA) := by
  unfold cStringsliteHasPrefix tStringsliteHasPrefix
  repeat' (first | exact Le.rfl' _ | refine Le.bd ?_ fun _ => ?_ | refine Le.ite ?_ ?_ | refine Le.ix fun _ => ?_ | refine Le.loop fun _ => ?_ | refine Le.sum (fun _ => ?_) (fun _ => ?_) | intro _)
def cStringsliteCutPrefix (n : Nat) (sA : List UInt8) (prefixA : List UInt8) : Option ((List UInt8) × Bool) :=
 bd ((cStringsliteHasPrefix n) sA prefixA) fun rA =>
 if !rA then
 some (sA, false)
 else
 if (0 : Int) ≤ (prefixA.length : Int) ∧ (prefixA.length : Int) ≤ (sA.length : Int) ∧ (sA.length : Int) ≤ (sA.length : Int) then
 some (List.drop (Int.toNat (prefixA.length : Int)) (List.take (Int.toNat (sA.length : Int)) sA), true)
 else none
theorem leStringsliteCutPrefix (n : Nat) (sA : List UInt8) (prefixA : List UInt8) : Le (cStringsliteCutPrefix n sA prefixA) (tStringsliteCutPrefix sA prefixA) := by
  unfold cStringsliteCutPrefix tStringsliteCutPrefix
  repeat' (first | exact Le.rfl' _ | apply leStringsliteHasPrefix | refine Le.bd ?_ fun _ => ?_ | refine Le.ite ?_ ?_ | refine Le.ix fun _ => ?_ | refine Le.loop fun _ => ?_ | refine Le.sum (fun _ => ?_) (fun _ => ?_) | intro _)
def cStringsCutPrefix (n : Nat) (sA : List UInt8) (prefixA : List UInt8) : Option ((List UInt8) × Bool) :=
 bd ((cStringsliteCutPrefix n) sA prefixA) fun rA =>
 some (rA.1, rA.2)
theorem leStringsCutPrefix (n : Nat) (sA : List UInt8) (prefixA : List UInt8) : Le (cStringsCutPrefix n sA prefixA) (tStringsCutPrefix sA prefixA) := by
  unfold cStringsCutPrefix tStringsCutPrefix
  repeat' (first | exact Le.rfl' _ | apply leStringsliteHasPrefix | apply leStringsliteCutPrefix | refine Le.bd ?_ fun _ => ?_ | refine Le.ite ?_ ?_ | refine Le.ix fun _ => ?_ | refine Le.loop fun _ => ?_ | refine Le.sum (fun _ => ?_) (fun _ => ?_) | intro _)
def cPathIsNameF1 (n : Nat) (c : Int) : Option Bool :=
 bd (tHasRune ([97, 98, 99, 100, 101, 102, 103, 104, 105, 106, 107, 108, 109, 110, 111, 112, 113, 114, 115, 116, 117, 118, 119, 120, 121, 122, 48, 49, 50, 51, 52, 53, 54, 55, 56, 57, 45, 95] : List UInt8) c) fun rA =>
 some (!rA)
theorem lePathIsNameF1 (n : Nat) (c : Int) : Le (cPathIsNameF1 n c) (tPathIsNameF1 c) := by
  unfold cPathIsNameF1 tPathIsNameF1
  repeat' (first | exact Le.rfl' _ | apply leStringsliteHasPrefix | apply leStringsliteCutPrefix | apply leStringsCutPrefix | refine Le.bd ?_ fun _ => ?_ | refine Le.ite ?_ ?_ | refine Le.ix fun _ => ?_ | refine Le.loop fun _ => ?_ | refine Le.sum (fun _ => ?_) (fun _ => ?_) | intro _)
def cStringsIndexInL1 (n : Nat) (f : Int → Option Bool) (truth : Bool) (st : (List MV)) : Option ((List MV) ⊕ (Unit ⊕ Int)) :=
 if itOk st then
 bd (f (itRune st)) fun rA =>
 if rA = truth then
 some (.inr (.inr (itPos st)))
 else
 some (.inl (itStep st))
 else
 some (.inr (.inl ()))
theorem leStringsIndexInL1 (n : Nat) (f fA : Int → Option Bool) (hf : ∀ u0, Le (f u0) (fA u0)) (truth : Bool) (st : (List MV)) : Le (cStringsIndexInL1 n f truth st) (tStringsIndexInL1 fA truth st) := by
  unfold cStringsIndexInL1 tStringsIndexInL1
  repeat' (first | exact Le.rfl' _ | apply leStringsliteHasPrefix | apply leStringsliteCutPrefix | apply leStringsCutPrefix | apply lePathIsNameF1 | exact hf _ _ _ | exact hf _ _ | exact hf _ | exact hf | refine Le.bd ?_ fun _ => ?_ | refine Le.ite ?_ ?_ | refine Le.ix fun _ => ?_ | refine Le.loop fun _ => ?_ | refine Le.sum (fun _ => ?_) (fun _ => ?_) | intro _)
def cStringsIndexIn (n : Nat) (sA : List UInt8) (f : Int → Option Bool) (truth : Bool) : Option Int :=
 bd (LoopC n ((cStringsIndexInL1 n) f truth) ([.s sA, .i .i64 0] : List MV)) fun w =>
 match w with
 | .inl p1 =>
   some (-1)
 | .inr p2 =>
   some p2
theorem leStringsIndexIn (n : Nat) (sA : List UInt8) (f fA : Int → Option Bool) (hf : ∀ u0, Le (f u0) (fA u0)) (truth : Bool) : Le (cStringsIndexIn n sA f truth) (tStringsIndexIn sA fA truth) := by
  unfold cStringsIndexIn tStringsIndexIn
  repeat' (first | exact Le.rfl' _ | apply leStringsliteHasPrefix | apply leStringsliteCutPrefix | apply leStringsCutPrefix | apply lePathIsNameF1 | apply leStringsIndexInL1 | exact hf _ _ _ | exact hf _ _ | exact hf _ | exact hf | refine Le.bd ?_ fun _ => ?_ | refine Le.ite ?_ ?_ | refine Le.ix fun _ => ?_ | refine Le.loop fun _ => ?_ | refine Le.sum (fun _ => ?_) (fun _ => ?_) | intro _)
def cStringsIndexFunc (n : Nat) (sA : List UInt8) (f : Int → Option Bool) : Option Int :=
 bd ((cStringsIndexIn n) sA f true) fun rA =>
 some rA
theorem leStringsIndexFunc (n : Nat) (sA : List UInt8) (f fA : Int → Option Bool) (hf : ∀ u0, Le (f u0) (fA u0)) : Le (cStringsIndexFunc n sA f) (tStringsIndexFunc sA fA) := by
  unfold cStringsIndexFunc tStringsIndexFunc
  repeat' (first | exact Le.rfl' _ | apply leStringsliteHasPrefix | apply leStringsliteCutPrefix | apply leStringsCutPrefix | apply lePathIsNameF1 | apply leStringsIndexIn | exact hf _ _ _ | exact hf _ _ | exact hf _ | exact hf | refine Le.bd ?_ fun _ => ?_ | refine Le.ite ?_ ?_ | refine Le.ix fun _ => ?_ | refine Le.loop fun _ => ?_ | refine Le.sum (fun _ => ?_) (fun _ => ?_) | intro _)
def cStringsContainsFunc (n : Nat) (sA : List UInt8) (f : Int → Option Bool) : Option Bool :=
 bd ((cStringsIndexFunc n) sA f) fun rA =>
 some (decide ((0 : Int) ≤ rA))
theorem leStringsContainsFunc (n : Nat) (sA : List UInt8) (f fA : Int → Option Bool) (hf : ∀ u0, Le (f u0) (fA u0)) : Le (cStringsContainsFunc n sA f) (tStringsContainsFunc sA fA) := by
  unfold cStringsContainsFunc tStringsContainsFunc
  repeat' (first | exact Le.rfl' _ | apply leStringsliteHasPrefix | apply leStringsliteCutPrefix | apply leStringsCutPrefix | apply lePathIsNameF1 | apply leStringsIndexIn | apply leStringsIndexFunc | exact hf _ _ _ | exact hf _ _ | exact hf _ | exact hf | refine Le.bd ?_ fun _ => ?_ | refine Le.ite ?_ ?_ | refine Le.ix fun _ => ?_ | refine Le.loop fun _ => ?_ | refine Le.sum (fun _ => ?_) (fun _ => ?_) | intro _)
def cPathIsName (n : Nat) (sA : List UInt8) : Option Bool :=
 bd (
   if !decide (sA = ([] : List UInt8)) then
   if (sA.length : Int) ≤ 30 then
   bd (tTrim sA ([97, 98, 99, 100, 101, 102, 103, 104, 105, 106, 107, 108, 109, 110, 111, 112, 113, 114, 115, 116, 117, 118, 119, 120, 121, 122, 48, 49, 50, 51, 52, 53, 54, 55, 56, 57, 45, 95] : List UInt8)) fun rA =>
   if rA = ([] : List UInt8) then
   bd ((cStringsContainsFunc n) sA (cPathIsNameF1 n)) fun rA1 =>
   some (!rA1)
   else
   some false
   else
   some false
   else
   some false : Option Bool) fun w =>
 some w
theorem lePathIsName (n : Nat) (sA : List UInt8) : Le (cPathIsName n sA) (tPathIsName sA) := by
  unfold cPathIsName tPathIsName
  repeat' (first | exact Le.rfl' _ | apply leStringsliteHasPrefix | apply leStringsliteCutPrefix | apply leStringsCutPrefix | apply lePathIsNameF1 | apply leStringsIndexIn | apply leStringsIndexFunc | apply leStringsContainsFunc | refine Le.bd ?_ fun _ => ?_ | refine Le.ite ?_ ?_ | refine Le.ix fun _ => ?_ | refine Le.loop fun _ => ?_ | refine Le.sum (fun _ => ?_) (fun _ => ?_) | intro _)
def cPathInnerF1 (n : Nat) (sA : List UInt8) : Option Bool :=
 bd ((cPathIsName n) sA) fun rA =>
 some (!rA)
theorem lePathInnerF1 (n : Nat) (sA : List UInt8) : Le (cPathInnerF1 n sA) (tPathInnerF1 sA) := by
  unfold cPathInnerF1 tPathInnerF1
  repeat' (first | exact Le.rfl' _ | apply leStringsliteHasPrefix | apply leStringsliteCutPrefix | apply leStringsCutPrefix | apply lePathIsNameF1 | apply leStringsIndexIn | apply leStringsIndexFunc | apply leStringsContainsFunc | apply lePathIsName | refine Le.bd ?_ fun _ => ?_ | refine Le.ite ?_ ?_ | refine Le.ix fun _ => ?_ | refine Le.loop fun _ => ?_ | refine Le.sum (fun _ => ?_) (fun _ => ?_) | intro _)
def cSlicesIndexFuncStringL1 (n : Nat) (sA : List (List UInt8)) (f : (List UInt8) → Option Bool) (st : Int) : Option (Int ⊕ (Unit ⊕ Int)) :=
 if st < (sA.length : Int) then
 ix sA st fun y =>
 bd (f y) fun rA =>
 if rA then
 some (.inr (.inr st))
 else
 some (.inl (IntKind.wrap .i64 (st + 1)))
 else
 some (.inr (.inl ()))
theorem leSlicesIndexFuncStringL1 (n : Nat) (sA : List (List UInt8)) (f fA : (List UInt8) → Option Bool) (hf : ∀ u0, Le (f u0) (fA u0)) (st : Int) : Le (cSlicesIndexFuncStringL1 n sA f st) (tSlicesIndexFuncStringL1 sA fA st) := by
  unfold cSlicesIndexFuncStringL1 tSlicesIndexFuncStringL1
  repeat' (first | exact Le.rfl' _ | apply leStringsliteHasPrefix | apply leStringsliteCutPrefix | apply leStringsCutPrefix | apply lePathIsNameF1 | apply leStringsIndexIn | apply leStringsIndexFunc | apply leStringsContainsFunc | apply lePathIsName | apply lePathInnerF1 | exact hf _ _ _ | exact hf _ _ | exact hf _ | exact hf | refine Le.bd ?_ fun _ => ?_ | refine Le.ite ?_ ?_ | refine Le.ix fun _ => ?_ | refine Le.loop fun _ => ?_ | refine Le.sum (fun _ => ?_) (fun _ => ?_) | intro _)
def cSlicesIndexFuncString (n : Nat) (sA : List (List UInt8)) (f : (List UInt8) → Option Bool) : Option Int :=
 bd (LoopC n ((cSlicesIndexFuncStringL1 n) sA f) 0) fun w =>
 match w with
 | .inl p1 =>
   some (-1)
 | .inr p2 =>
   some p2
theorem leSlicesIndexFuncString (n : Nat) (sA : List (List UInt8)) (f fA : (List UInt8) → Option Bool) (hf : ∀ u0, Le (f u0) (fA u0)) : Le (cSlicesIndexFuncString n sA f) (tSlicesIndexFuncString sA fA) := by
  unfold cSlicesIndexFuncString tSlicesIndexFuncString
  repeat' (first | exact Le.rfl' _ | apply leStringsliteHasPrefix | apply leStringsliteCutPrefix | apply leStringsCutPrefix | apply lePathIsNameF1 | apply leStringsIndexIn | apply leStringsIndexFunc | apply leStringsContainsFunc | apply lePathIsName | apply lePathInnerF1 | apply leSlicesIndexFuncStringL1 | exact hf _ _ _ | exact hf _ _ | exact hf _ | exact hf | refine Le.bd ?_ fun _ => ?_ | refine Le.ite ?_ ?_ | refine Le.ix fun _ => ?_ | refine Le.loop fun _ => ?_ | refine Le.sum (fun _ => ?_) (fun _ => ?_) | intro _)
def cSlicesContainsFuncString (n : Nat) (sA : List (List UInt8)) (f : (List UInt8) → Option Bool) : Option Bool :=
 bd ((cSlicesIndexFuncString n) sA f) fun rA =>
 some (decide ((0 : Int) ≤ rA))
theorem leSlicesContainsFuncString (n : Nat) (sA : List (List UInt8)) (f fA : (List UInt8) → Option Bool) (hf : ∀ u0, Le (f u0) (fA u0)) : Le (cSlicesContainsFuncString n sA f) (tSlicesContainsFuncString sA fA) := by
  unfold cSlicesContainsFuncString tSlicesContainsFuncString
  repeat' (first | exact Le.rfl' _ | apply leStringsliteHasPrefix | apply leStringsliteCutPrefix | apply leStringsCutPrefix | apply lePathIsNameF1 | apply leStringsIndexIn | apply leStringsIndexFunc | apply leStringsContainsFunc | apply lePathIsName | apply lePathInnerF1 | apply leSlicesIndexFuncString | exact hf _ _ _ | exact hf _ _ | exact hf _ | exact hf | refine Le.bd ?_ fun _ => ?_ | refine Le.ite ?_ ?_ | refine Le.ix fun _ => ?_ | refine Le.loop fun _ => ?_ | refine Le.sum (fun _ => ?_) (fun _ => ?_) | intro _)
def cPathInner (n : Nat) (p : List UInt8) : Option ((List (List UInt8)) × Bool) :=
 bd ((cStringsCutPrefix n) p ([47] : List UInt8)) fun rA =>
 bd (
   if !rA.2 then
   some true
   else
   some (decide ((100 : Int) < (p.length : Int))) : Option Bool) fun w =>
 if w then
 some (([] : List (List UInt8)), false)
 else
 if rA.1 = ([] : List UInt8) then
 some (([] : List (List UInt8)), true)
 else
 bd (tSplit rA.1 ([47] : List UInt8)) fun rA1 =>
 bd (
   if (rA1.length : Int) ≤ 8 then
   bd ((cSlicesContainsFuncString n) rA1 (cPathInnerF1 n)) fun rA2 =>
   some (rA1, !rA2, rA1)
   else
   some (rA1, false, rA1) : Option ((List (List UInt8)) × Bool × (List (List UInt8)))) fun w1 =>
 some (w1.2.2, w1.2.1)
theorem lePathInner (n : Nat) (p : List UInt8) : Le (cPathInner n p) (tPathInner p) := by
  unfold cPathInner tPathInner
  repeat' (first | exact Le.rfl' _ | apply leStringsliteHasPrefix | apply leStringsliteCutPrefix | apply leStringsCutPrefix | apply lePathIsNameF1 | apply leStringsIndexIn | apply leStringsIndexFunc | apply leStringsContainsFunc | apply lePathIsName | apply lePathInnerF1 | apply leSlicesIndexFuncString | apply leSlicesContainsFuncString | refine Le.bd ?_ fun _ => ?_ | refine Le.ite ?_ ?_ | refine Le.ix fun _ => ?_ | refine Le.loop fun _ => ?_ | refine Le.sum (fun _ => ?_) (fun _ => ?_) | intro _)
def cPathRight (n : Nat) (p : List UInt8) : Option Bool :=
 bd ((cPathInner n) p) fun rA =>
 some rA.2
theorem lePathRight (n : Nat) (p : List UInt8) : Le (cPathRight n p) (tPathRight p) := by
  unfold cPathRight tPathRight
  repeat' (first | exact Le.rfl' _ | apply leStringsliteHasPrefix | apply leStringsliteCutPrefix | apply leStringsCutPrefix | apply lePathIsNameF1 | apply leStringsIndexIn | apply leStringsIndexFunc | apply leStringsContainsFunc | apply lePathIsName | apply lePathInnerF1 | apply leSlicesIndexFuncString | apply leSlicesContainsFuncString | apply lePathInner | refine Le.bd ?_ fun _ => ?_ | refine Le.ite ?_ ?_ | refine Le.ix fun _ => ?_ | refine Le.loop fun _ => ?_ | refine Le.sum (fun _ => ?_) (fun _ => ?_) | intro _)
def cBytealgLastIndexByteStringL1 (n : Nat) (sA : List UInt8) (c : Int) (st : Int) : Option (Int ⊕ (Unit ⊕ Int)) :=
 if (0 : Int) ≤ st then
 if (0 : Int) ≤ st ∧ st < (sA.length : Int) then
 if ((sA.getD (Int.toNat st) 0).toNat : Int) = c then
 some (.inr (.inr st))
 else
 some (.inl (IntKind.wrap .i64 (st - 1)))
 else none
 else
 some (.inr (.inl ()))
theorem leBytealgLastIndexByteStringL1 (n : Nat) (sA : List UInt8) (c : Int) (st : Int) : Le (cBytealgLastIndexByteStringL1 n sA c st) (tBytealgLastIndexByteStringL1 sA c st) := by
  unfold cBytealgLastIndexByteStringL1 tBytealgLastIndexByteStringL1
  repeat' (first | exact Le.rfl' _ | apply leStringsliteHasPrefix | apply leStringsliteCutPrefix | apply leStringsCutPrefix | apply lePathIsNameF1 | apply leStringsIndexIn | apply leStringsIndexFunc | apply leStringsContainsFunc | apply lePathIsName | apply lePathInnerF1 | apply leSlicesIndexFuncString | apply leSlicesContainsFuncString | apply lePathInner | apply lePathRight | refine Le.bd ?_ fun _ => ?_ | refine Le.ite ?_ ?_ | refine Le.ix fun _ => ?_ | refine Le.loop fun _ => ?_ | refine Le.sum (fun _ => ?_) (fun _ => ?_) | intro _)
def cBytealgLastIndexByteString (n : Nat) (sA : List UInt8) (c : Int) : Option Int :=
 bd (LoopC n ((cBytealgLastIndexByteStringL1 n) sA c) (IntKind.wrap .i64 ((sA.length : Int) - 1))) fun w =>
 match w with
 | .inl p1 =>
   some (-1)
 | .inr p2 =>
   some p2
theorem leBytealgLastIndexByteString (n : Nat) (sA : List UInt8) (c : Int) : Le (cBytealgLastIndexByteString n sA c) (tBytealgLastIndexByteString sA c) := by
  unfold cBytealgLastIndexByteString tBytealgLastIndexByteString
  repeat' (first | exact Le.rfl' _ | apply leStringsliteHasPrefix | apply leStringsliteCutPrefix | apply leStringsCutPrefix | apply lePathIsNameF1 | apply leStringsIndexIn | apply leStringsIndexFunc | apply leStringsContainsFunc | apply lePathIsName | apply lePathInnerF1 | apply leSlicesIndexFuncString | apply leSlicesContainsFuncString | apply lePathInner | apply lePathRight | apply leBytealgLastIndexByteStringL1 | refine Le.bd ?_ fun _ => ?_ | refine Le.ite ?_ ?_ | refine Le.ix fun _ => ?_ | refine Le.loop fun _ => ?_ | refine Le.sum (fun _ => ?_) (fun _ => ?_) | intro _)
def cBytealgHashStrRevStringL1 (n : Nat) (sep : List UInt8) (st : Int × Int) : Option ((Int × Int) ⊕ Int) :=
 if (0 : Int) ≤ st.2 then
 if (0 : Int) ≤ st.2 ∧ st.2 < (sep.length : Int) then
 some (.inl (IntKind.wrap .u32 ((IntKind.wrap .u32 (st.1 * 16777619)) + (IntKind.wrap .u32 ((sep.getD (Int.toNat st.2) 0).toNat : Int))), IntKind.wrap .i64 (st.2 - 1)))
 else none
 else
 some (.inr st.1)
theorem leBytealgHashStrRevStringL1 (n : Nat) (sep : List UInt8) (st : Int × Int) : Le (cBytealgHashStrRevStringL1 n sep st) (tBytealgHashStrRevStringL1 sep st) := by
  unfold cBytealgHashStrRevStringL1 tBytealgHashStrRevStringL1
  repeat' (first | exact Le.rfl' _ | apply leStringsliteHasPrefix | apply leStringsliteCutPrefix | apply leStringsCutPrefix | apply lePathIsNameF1 | apply leStringsIndexIn | apply leStringsIndexFunc | apply leStringsContainsFunc | apply lePathIsName | apply lePathInnerF1 | apply leSlicesIndexFuncString | apply leSlicesContainsFuncString | apply lePathInner | apply lePathRight | apply leBytealgLastIndexByteString | refine Le.bd ?_ fun _ => ?_ | refine Le.ite ?_ ?_ | refine Le.ix fun _ => ?_ | refine Le.loop fun _ => ?_ | refine Le.sum (fun _ => ?_) (fun _ => ?_) | intro _)
def cBytealgHashStrRevStringL2 (n : Nat) (st1 : Int × Int × Int) : Option ((Int × Int × Int) ⊕ Int) :=
 if (0 : Int) < st1.2.2 then
 none
 else
 some (.inr st1.1)
theorem leBytealgHashStrRevStringL2 (n : Nat) (st1 : Int × Int × Int) : Le (cBytealgHashStrRevStringL2 n st1) (tBytealgHashStrRevStringL2 st1) := by
  unfold cBytealgHashStrRevStringL2 tBytealgHashStrRevStringL2
  repeat' (first | exact Le.rfl' _ | apply leStringsliteHasPrefix | apply leStringsliteCutPrefix | apply leStringsCutPrefix | apply lePathIsNameF1 | apply leStringsIndexIn | apply leStringsIndexFunc | apply leStringsContainsFunc | apply lePathIsName | apply lePathInnerF1 | apply leSlicesIndexFuncString | apply leSlicesContainsFuncString | apply lePathInner | apply lePathRight | apply leBytealgLastIndexByteString | apply leBytealgHashStrRevStringL1 | refine Le.bd ?_ fun _ => ?_ | refine Le.ite ?_ ?_ | refine Le.ix fun _ => ?_ | refine Le.loop fun _ => ?_ | refine Le.sum (fun _ => ?_) (fun _ => ?_) | intro _)
def cBytealgHashStrRevString (n : Nat) (sep : List UInt8) : Option (Int × Int) :=
 bd (LoopC n ((cBytealgHashStrRevStringL1 n) sep) (0, IntKind.wrap .i64 ((sep.length : Int) - 1))) fun w =>
 bd (LoopC n (cBytealgHashStrRevStringL2 n) (1, 16777619, (sep.length : Int))) fun w1 =>
 some (w, w1)
theorem leBytealgHashStrRevString (n : Nat) (sep : List UInt8) : Le (cBytealgHashStrRevString n sep) (tBytealgHashStrRevString sep) := by
  unfold cBytealgHashStrRevString tBytealgHashStrRevString
  repeat' (first | exact Le.rfl' _ | apply leStringsliteHasPrefix | apply leStringsliteCutPrefix | apply leStringsCutPrefix | apply lePathIsNameF1 | apply leStringsIndexIn | apply leStringsIndexFunc | apply leStringsContainsFunc | apply lePathIsName | apply lePathInnerF1 | apply leSlicesIndexFuncString | apply leSlicesContainsFuncString | apply lePathInner | apply lePathRight | apply leBytealgLastIndexByteString | apply leBytealgHashStrRevStringL1 | apply leBytealgHashStrRevStringL2 | refine Le.bd ?_ fun _ => ?_ | refine Le.ite ?_ ?_ | refine Le.ix fun _ => ?_ | refine Le.loop fun _ => ?_ | refine Le.sum (fun _ => ?_) (fun _ => ?_) | intro _)
def cBytealgLastIndexRabinKarpStringL1 (n : Nat) (a : List UInt8) (a1 : List UInt8) (st : Int × Int) : Option ((Int × Int) ⊕ Int) :=
 if (IntKind.wrap .i64 ((a.length : Int) - (a1.length : Int))) ≤ st.2 then
 if (0 : Int) ≤ st.2 ∧ st.2 < (a.length : Int) then
 some (.inl (IntKind.wrap .u32 ((IntKind.wrap .u32 (st.1 * 16777619)) + (IntKind.wrap .u32 ((a.getD (Int.toNat st.2) 0).toNat : Int))), IntKind.wrap .i64 (st.2 - 1)))
 else none
 else
 some (.inr st.1)
theorem leBytealgLastIndexRabinKarpStringL1 (n : Nat) (a : List UInt8) (a1 : List UInt8) (st : Int × Int) : Le (cBytealgLastIndexRabinKarpStringL1 n a a1 st) (tBytealgLastIndexRabinKarpStringL1 a a1 st) := by
  unfold cBytealgLastIndexRabinKarpStringL1 tBytealgLastIndexRabinKarpStringL1
  repeat' (first | exact Le.rfl' _ | apply leStringsliteHasPrefix | apply leStringsliteCutPrefix | apply leStringsCutPrefix | apply lePathIsNameF1 | apply leStringsIndexIn | apply leStringsIndexFunc | apply leStringsContainsFunc | apply lePathIsName | apply lePathInnerF1 | apply leSlicesIndexFuncString | apply leSlicesContainsFuncString | apply lePathInner | apply lePathRight | apply leBytealgLastIndexByteString | apply leBytealgHashStrRevString | refine Le.bd ?_ fun _ => ?_ | refine Le.ite ?_ ?_ | refine Le.ix fun _ => ?_ | refine Le.loop fun _ => ?_ | refine Le.sum (fun _ => ?_) (fun _ => ?_) | intro _)
def cBytealgLastIndexRabinKarpStringL2 (n : Nat) (a : List UInt8) (a1 : List UInt8) (rA : Int × Int) (st1 : Int × Int) : Option ((Int × Int) ⊕ (Unit ⊕ Int)) :=
 if (0 : Int) ≤ st1.2 then
 if (0 : Int) ≤ st1.2 ∧ st1.2 < (a.length : Int) then
 if (0 : Int) ≤ (IntKind.wrap .i64 (st1.2 + (a1.length : Int))) ∧ (IntKind.wrap .i64 (st1.2 + (a1.length : Int))) < (a.length : Int) then
 bd (
   if (IntKind.wrap .u32 ((IntKind.wrap .u32 ((IntKind.wrap .u32 (st1.1 * 16777619)) + (IntKind.wrap .u32 ((a.getD (Int.toNat st1.2) 0).toNat : Int)))) - (IntKind.wrap .u32 (rA.2 * (IntKind.wrap .u32 ((a.getD (Int.toNat (IntKind.wrap .i64 (st1.2 + (a1.length : Int)))) 0).toNat : Int)))))) = rA.1 then
   if (0 : Int) ≤ st1.2 ∧ st1.2 ≤ (IntKind.wrap .i64 (st1.2 + (a1.length : Int))) ∧ (IntKind.wrap .i64 (st1.2 + (a1.length : Int))) ≤ (a.length : Int) then
   some (decide ((List.drop (Int.toNat st1.2) (List.take (Int.toNat (IntKind.wrap .i64 (st1.2 + (a1.length : Int)))) a)) = a1))
   else none
   else
   some false : Option Bool) fun w3 =>
 if w3 then
 some (.inr (.inr st1.2))
 else
 some (.inl (IntKind.wrap .u32 ((IntKind.wrap .u32 ((IntKind.wrap .u32 (st1.1 * 16777619)) + (IntKind.wrap .u32 ((a.getD (Int.toNat st1.2) 0).toNat : Int)))) - (IntKind.wrap .u32 (rA.2 * (IntKind.wrap .u32 ((a.getD (Int.toNat (IntKind.wrap .i64 (st1.2 + (a1.length : Int)))) 0).toNat : Int))))), IntKind.wrap .i64 (st1.2 - 1)))
 else none
 else none
 else
 some (.inr (.inl ()))
theorem leBytealgLastIndexRabinKarpStringL2 (n : Nat) (a : List UInt8) (a1 : List UInt8) (rA : Int × Int) (st1 : Int × Int) : Le (cBytealgLastIndexRabinKarpStringL2 n a a1 rA st1) (tBytealgLastIndexRabinKarpStringL2 a a1 rA st1) := by
  unfold cBytealgLastIndexRabinKarpStringL2 tBytealgLastIndexRabinKarpStringL2
  repeat' (first | exact Le.rfl' _ | apply leStringsliteHasPrefix | apply leStringsliteCutPrefix | apply leStringsCutPrefix | apply lePathIsNameF1 | apply leStringsIndexIn | apply leStringsIndexFunc | apply leStringsContainsFunc | apply lePathIsName | apply lePathInnerF1 | apply leSlicesIndexFuncString | apply leSlicesContainsFuncString | apply lePathInner | apply lePathRight | apply leBytealgLastIndexByteString | apply leBytealgHashStrRevString | apply leBytealgLastIndexRabinKarpStringL1 | refine Le.bd ?_ fun _ => ?_ | refine Le.ite ?_ ?_ | refine Le.ix fun _ => ?_ | refine Le.loop fun _ => ?_ | refine Le.sum (fun _ => ?_) (fun _ => ?_) | intro _)
def cBytealgLastIndexRabinKarpString (n : Nat) (a : List UInt8) (a1 : List UInt8) : Option Int :=
 bd ((cBytealgHashStrRevString n) a1) fun rA =>
 bd (LoopC n ((cBytealgLastIndexRabinKarpStringL1 n) a a1) (0, IntKind.wrap .i64 ((a.length : Int) - 1))) fun w =>
 bd (
   if w = rA.1 then
   if (0 : Int) ≤ (IntKind.wrap .i64 ((a.length : Int) - (a1.length : Int))) ∧ (IntKind.wrap .i64 ((a.length : Int) - (a1.length : Int))) ≤ (a.length : Int) ∧ (a.length : Int) ≤ (a.length : Int) then
   some (decide ((List.drop (Int.toNat (IntKind.wrap .i64 ((a.length : Int) - (a1.length : Int)))) (List.take (Int.toNat (a.length : Int)) a)) = a1))
   else none
   else
   some false : Option Bool) fun w1 =>
 if w1 then
 some (IntKind.wrap .i64 ((a.length : Int) - (a1.length : Int)))
 else
 bd (LoopC n ((cBytealgLastIndexRabinKarpStringL2 n) a a1 rA) (w, IntKind.wrap .i64 ((IntKind.wrap .i64 ((a.length : Int) - (a1.length : Int))) - 1))) fun w2 =>
 match w2 with
 | .inl p2 =>
   some (-1)
 | .inr p3 =>
   some p3
theorem leBytealgLastIndexRabinKarpString (n : Nat) (a : List UInt8) (a1 : List UInt8) : Le (cBytealgLastIndexRabinKarpString n a a1) (tBytealgLastIndexRabinKarpString a a1) := by
  unfold cBytealgLastIndexRabinKarpString tBytealgLastIndexRabinKarpString
  repeat' (first | exact Le.rfl' _ | apply leStringsliteHasPrefix | apply leStringsliteCutPrefix | apply leStringsCutPrefix | apply lePathIsNameF1 | apply leStringsIndexIn | apply leStringsIndexFunc | apply leStringsContainsFunc | apply lePathIsName | apply lePathInnerF1 | apply leSlicesIndexFuncString | apply leSlicesContainsFuncString | apply lePathInner | apply lePathRight | apply leBytealgLastIndexByteString | apply leBytealgHashStrRevString | apply leBytealgLastIndexRabinKarpStringL1 | apply leBytealgLastIndexRabinKarpStringL2 | refine Le.bd ?_ fun _ => ?_ | refine Le.ite ?_ ?_ | refine Le.ix fun _ => ?_ | refine Le.loop fun _ => ?_ | refine Le.sum (fun _ => ?_) (fun _ => ?_) | intro _)
def cStringsLastIndex (n : Nat) (sA : List UInt8) (substr : List UInt8) : Option Int :=
 if (substr.length : Int) = 0 then
 some (sA.length : Int)
 else
 if (substr.length : Int) = 1 then
 if (0 : Int) ≤ 0 ∧ (0 : Int) < (substr.length : Int) then
 bd ((cBytealgLastIndexByteString n) sA ((substr.getD (Int.toNat 0) 0).toNat : Int)) fun rA =>
 some rA
 else none
 else
 if (substr.length : Int) = (sA.length : Int) then
 if substr = sA then
 some 0
 else
 some (-1)
 else
 if (sA.length : Int) < (substr.length : Int) then
 some (-1)
 else
 bd ((cBytealgLastIndexRabinKarpString n) sA substr) fun rA1 =>
 some rA1
theorem leStringsLastIndex (n : Nat) (sA : List UInt8) (substr : List UInt8) : Le (cStringsLastIndex n sA substr) (tStringsLastIndex sA substr) := by
  unfold cStringsLastIndex tStringsLastIndex
  repeat' (first | exact Le.rfl' _ | apply leStringsliteHasPrefix | apply leStringsliteCutPrefix | apply leStringsCutPrefix | apply lePathIsNameF1 | apply leStringsIndexIn | apply leStringsIndexFunc | apply leStringsContainsFunc | apply lePathIsName | apply lePathInnerF1 | apply leSlicesIndexFuncString | apply leSlicesContainsFuncString | apply lePathInner | apply lePathRight | apply leBytealgLastIndexByteString | apply leBytealgHashStrRevString | apply leBytealgLastIndexRabinKarpString | refine Le.bd ?_ fun _ => ?_ | refine Le.ite ?_ ?_ | refine Le.ix fun _ => ?_ | refine Le.loop fun _ => ?_ | refine Le.sum (fun _ => ?_) (fun _ => ?_) | intro _)
def cPathParent (n : Nat) (p : List UInt8) : Option ((List UInt8) × Int) :=
 bd ((cPathRight n) p) fun rA =>
 if !rA then
 some (([] : List UInt8), 13)
 else
 if p = ([47] : List UInt8) then
 some (([] : List UInt8), 6)
 else
 bd ((cStringsLastIndex n) p ([47] : List UInt8)) fun rA1 =>
 if (0 : Int) ≤ 0 ∧ (0 : Int) ≤ (imax 1 rA1) ∧ (imax 1 rA1) ≤ (p.length : Int) then
 some (List.drop (Int.toNat 0) (List.take (Int.toNat (imax 1 rA1)) p), 0)
 else none
theorem lePathParent (n : Nat) (p : List UInt8) : Le (cPathParent n p) (tPathParent p) := by
  unfold cPathParent tPathParent
  repeat' (first | exact Le.rfl' _ | apply leStringsliteHasPrefix | apply leStringsliteCutPrefix | apply leStringsCutPrefix | apply lePathIsNameF1 | apply leStringsIndexIn | apply leStringsIndexFunc | apply leStringsContainsFunc | apply lePathIsName | apply lePathInnerF1 | apply leSlicesIndexFuncString | apply leSlicesContainsFuncString | apply lePathInner | apply lePathRight | apply leBytealgLastIndexByteString | apply leBytealgHashStrRevString | apply leBytealgLastIndexRabinKarpString | apply leStringsLastIndex | refine Le.bd ?_ fun _ => ?_ | refine Le.ite ?_ ?_ | refine Le.ix fun _ => ?_ | refine Le.loop fun _ => ?_ | refine Le.sum (fun _ => ?_) (fun _ => ?_) | intro _)
def cCmpIsNaNString (n : Nat) (x : List UInt8) : Option Bool :=
 some (!decide (x = x))
theorem leCmpIsNaNString (n : Nat) (x : List UInt8) : Le (cCmpIsNaNString n x) (tCmpIsNaNString x) := by
  unfold cCmpIsNaNString tCmpIsNaNString
  repeat' (first | exact Le.rfl' _ | apply leStringsliteHasPrefix | apply leStringsliteCutPrefix | apply leStringsCutPrefix | apply lePathIsNameF1 | apply leStringsIndexIn | apply leStringsIndexFunc | apply leStringsContainsFunc | apply lePathIsName | apply lePathInnerF1 | apply leSlicesIndexFuncString | apply leSlicesContainsFuncString | apply lePathInner | apply lePathRight | apply leBytealgLastIndexByteString | apply leBytealgHashStrRevString | apply leBytealgLastIndexRabinKarpString | apply leStringsLastIndex | apply lePathParent | refine Le.bd ?_ fun _ => ?_ | refine Le.ite ?_ ?_ | refine Le.ix fun _ => ?_ | refine Le.loop fun _ => ?_ | refine Le.sum (fun _ => ?_) (fun _ => ?_) | intro _)
def cCmpCompareString (n : Nat) (x : List UInt8) (y : List UInt8) : Option Int :=
 bd ((cCmpIsNaNString n) x) fun rA =>
 bd ((cCmpIsNaNString n) y) fun rA1 =>
 if rA then
 if rA1 then
 some 0
 else
 some (-1)
 else
 if rA1 then
 some 1
 else
 if Op.bytesLess x y then
 some (-1)
 else
 if !(Op.bytesLess x y || decide (x = y)) then
 some 1
 else
 some 0
theorem leCmpCompareString (n : Nat) (x : List UInt8) (y : List UInt8) : Le (cCmpCompareString n x y) (tCmpCompareString x y) := by
  unfold cCmpCompareString tCmpCompareString
  repeat' (first | exact Le.rfl' _ | apply leStringsliteHasPrefix | apply leStringsliteCutPrefix | apply leStringsCutPrefix | apply lePathIsNameF1 | apply leStringsIndexIn | apply leStringsIndexFunc | apply leStringsContainsFunc | apply lePathIsName | apply lePathInnerF1 | apply leSlicesIndexFuncString | apply leSlicesContainsFuncString | apply lePathInner | apply lePathRight | apply leBytealgLastIndexByteString | apply leBytealgHashStrRevString | apply leBytealgLastIndexRabinKarpString | apply leStringsLastIndex | apply lePathParent | apply leCmpIsNaNString | refine Le.bd ?_ fun _ => ?_ | refine Le.ite ?_ ?_ | refine Le.ix fun _ => ?_ | refine Le.loop fun _ => ?_ | refine Le.sum (fun _ => ?_) (fun _ => ?_) | intro _)
def cSlicesCompareStringL1 (n : Nat) (s1 : List (List UInt8)) (s2 : List (List UInt8)) (st : Int) : Option (Int ⊕ (Unit ⊕ Int)) :=
 if st < (s1.length : Int) then
 ix s1 st fun y =>
 if (s2.length : Int) ≤ st then
 some (.inr (.inr 1))
 else
 ix s2 st fun y1 =>
 bd ((cCmpCompareString n) y y1) fun rA =>
 if !decide (rA = 0) then
 some (.inr (.inr rA))
 else
 some (.inl (IntKind.wrap .i64 (st + 1)))
 else
 some (.inr (.inl ()))
theorem leSlicesCompareStringL1 (n : Nat) (s1 : List (List UInt8)) (s2 : List (List UInt8)) (st : Int) : Le (cSlicesCompareStringL1 n s1 s2 st) (tSlicesCompareStringL1 s1 s2 st) := by
  unfold cSlicesCompareStringL1 tSlicesCompareStringL1
  repeat' (first | exact Le.rfl' _ | apply leStringsliteHasPrefix | apply leStringsliteCutPrefix | apply leStringsCutPrefix | apply lePathIsNameF1 | apply leStringsIndexIn | apply leStringsIndexFunc | apply leStringsContainsFunc | apply lePathIsName | apply lePathInnerF1 | apply leSlicesIndexFuncString | apply leSlicesContainsFuncString | apply lePathInner | apply lePathRight | apply leBytealgLastIndexByteString | apply leBytealgHashStrRevString | apply leBytealgLastIndexRabinKarpString | apply leStringsLastIndex | apply lePathParent | apply leCmpIsNaNString | apply leCmpCompareString | refine Le.bd ?_ fun _ => ?_ | refine Le.ite ?_ ?_ | refine Le.ix fun _ => ?_ | refine Le.loop fun _ => ?_ | refine Le.sum (fun _ => ?_) (fun _ => ?_) | intro _)
def cSlicesCompareString (n : Nat) (s1 : List (List UInt8)) (s2 : List (List UInt8)) : Option Int :=
 bd (LoopC n ((cSlicesCompareStringL1 n) s1 s2) 0) fun w =>
 match w with
 | .inl p1 =>
   if (s1.length : Int) < (s2.length : Int) then
   some (-1)
   else
   some 0
 | .inr p2 =>
   some p2
theorem leSlicesCompareString (n : Nat) (s1 : List (List UInt8)) (s2 : List (List UInt8)) : Le (cSlicesCompareString n s1 s2) (tSlicesCompareString s1 s2) := by
  unfold cSlicesCompareString tSlicesCompareString
  repeat' (first | exact Le.rfl' _ | apply leStringsliteHasPrefix | apply leStringsliteCutPrefix | apply leStringsCutPrefix | apply lePathIsNameF1 | apply leStringsIndexIn | apply leStringsIndexFunc | apply leStringsContainsFunc | apply lePathIsName | apply lePathInnerF1 | apply leSlicesIndexFuncString | apply leSlicesContainsFuncString | apply lePathInner | apply lePathRight | apply leBytealgLastIndexByteString | apply leBytealgHashStrRevString | apply leBytealgLastIndexRabinKarpString | apply leStringsLastIndex | apply lePathParent | apply leCmpIsNaNString | apply leCmpCompareString | apply leSlicesCompareStringL1 | refine Le.bd ?_ fun _ => ?_ | refine Le.ite ?_ ?_ | refine Le.ix fun _ => ?_ | refine Le.loop fun _ => ?_ | refine Le.sum (fun _ => ?_) (fun _ => ?_) | intro _)
def cPathAhead (n : Nat) (p : List UInt8) (q : List UInt8) : Option Bool :=
 bd ((cPathInner n) p) fun rA =>
 bd ((cPathInner n) q) fun rA1 =>
 bd (
   if rA.2 then
   if rA1.2 then
   bd ((cSlicesCompareString n) rA.1 rA1.1) fun rA2 =>
   some (decide (rA2 < 0))
   else
   some false
   else
   some false : Option Bool) fun w =>
 some w
theorem lePathAhead (n : Nat) (p : List UInt8) (q : List UInt8) : Le (cPathAhead n p q) (tPathAhead p q) := by
  unfold cPathAhead tPathAhead
  repeat' (first | exact Le.rfl' _ | apply leStringsliteHasPrefix | apply leStringsliteCutPrefix | apply leStringsCutPrefix | apply lePathIsNameF1 | apply leStringsIndexIn | apply leStringsIndexFunc | apply leStringsContainsFunc | apply lePathIsName | apply lePathInnerF1 | apply leSlicesIndexFuncString | apply leSlicesContainsFuncString | apply lePathInner | apply lePathRight | apply leBytealgLastIndexByteString | apply leBytealgHashStrRevString | apply leBytealgLastIndexRabinKarpString | apply leStringsLastIndex | apply lePathParent | apply leCmpIsNaNString | apply leCmpCompareString | apply leSlicesCompareString | refine Le.bd ?_ fun _ => ?_ | refine Le.ite ?_ ?_ | refine Le.ix fun _ => ?_ | refine Le.loop fun _ => ?_ | refine Le.sum (fun _ => ?_) (fun _ => ?_) | intro _)
def cL08Alive (n : Nat) : Option Bool :=
 bd ((cPathParent n) ([47, 97, 47, 98] : List UInt8)) fun rA =>
 bd ((cPathParent n) ([47] : List UInt8)) fun rA1 =>
 bd (
   if rA.1 = ([47, 97] : List UInt8) then
   if rA.2 = 0 then
   if rA1.2 = 6 then
   bd ((cPathRight n) ([47] : List UInt8)) fun rA2 =>
   if rA2 then
   bd ((cPathRight n) ([97] : List UInt8)) fun rA3 =>
   if !rA3 then
   bd ((cPathAhead n) ([47, 97, 47, 98] : List UInt8) ([47, 97, 45, 98] : List UInt8)) fun rA4 =>
   some rA4
   else
   some false
   else
   some false
   else
   some false
   else
   some false
   else
   some false : Option Bool) fun w =>
 some w
theorem leL08Alive (n : Nat) : Le (cL08Alive n) (tL08Alive) := by
  unfold cL08Alive tL08Alive
  repeat' (first | exact Le.rfl' _ | apply leStringsliteHasPrefix | apply leStringsliteCutPrefix | apply leStringsCutPrefix | apply lePathIsNameF1 | apply leStringsIndexIn | apply leStringsIndexFunc | apply leStringsContainsFunc | apply lePathIsName | apply lePathInnerF1 | apply leSlicesIndexFuncString | apply leSlicesContainsFuncString | apply lePathInner | apply lePathRight | apply leBytealgLastIndexByteString | apply leBytealgHashStrRevString | apply leBytealgLastIndexRabinKarpString | apply leStringsLastIndex | apply lePathParent | apply leCmpIsNaNString | apply leCmpCompareString | apply leSlicesCompareString | apply lePathAhead | refine Le.bd ?_ fun _ => ?_ | refine Le.ite ?_ ?_ | refine Le.ix fun _ => ?_ | refine Le.loop fun _ => ?_ | refine Le.sum (fun _ => ?_) (fun _ => ?_) | intro _)
theorem evL08Alive : tL08Alive = some true := leL08Alive 200 _ (by decide +kernel)
end Dn.S
