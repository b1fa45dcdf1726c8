import Derived.Test.YtmdniblpkkoeoaaDnMT
import Derived.Test.YtmdniblpkkoeoaaDnC
/-
  The functions, with a bound on their rounds. Conditions: none.
-/
open Go Dn
set_option linter.unusedVariables false
set_option linter.unusedSimpArgs false
set_option maxRecDepth 100000
namespace Dn.S
def cCmpIsNaNInt (n : Nat) (x : Int) : Option Bool :=
 some (!decide (x = x))
theorem leCmpIsNaNInt (n : Nat) (x : Int) : Le (cCmpIsNaNInt n x) (tCmpIsNaNInt x) := by
  unfold cCmpIsNaNInt tCmpIsNaNInt
  repeat' (first | exact Le.rfl' _ | refine Le.bd ?_ fun _ => ?_ | refine Le.ite ?_ ?_ | refine Le.ix fun _ => ?_ | refine Le.loop fun _ => ?_ | refine Le.sum (fun _ => ?_) (fun _ => ?_) | intro _)
def cCmpCompareInt (n : Nat) (x : Int) (y : Int) : Option Int :=
 bd ((cCmpIsNaNInt n) x) fun rA =>
 bd ((cCmpIsNaNInt n) y) fun rA1 =>
 if rA then
 if rA1 then
 some 0
 else
 some (-1)
 else
 if rA1 then
 some 1
 else
 if x < y then
 some (-1)
 else
 if y < x then
 some 1
 else
 some 0
theorem leCmpCompareInt (n : Nat) (x : Int) (y : Int) : Le (cCmpCompareInt n x y) (tCmpCompareInt x y) := by
  unfold cCmpCompareInt tCmpCompareInt
  repeat' (first | exact Le.rfl' _ | apply leCmpIsNaNInt | refine Le.bd ?_ fun _ => ?_ | refine Le.ite ?_ ?_ | refine Le.ix fun _ => ?_ | refine Le.loop fun _ => ?_ | refine Le.sum (fun _ => ?_) (fun _ => ?_) | intro _)
def cMarkHearF1 (n : Nat) (y : MarkMark) (byA : Int) : Option Int :=
 bd ((cCmpCompareInt n) y.By byA) fun rA =>
 some rA
theorem leMarkHearF1 (n : Nat) (y : MarkMark) (byA : Int) : Le (cMarkHearF1 n y byA) (tMarkHearF1 y byA) := by
  unfold cMarkHearF1 tMarkHearF1
  repeat' (first | exact Le.rfl' _ | apply leCmpIsNaNInt | apply leCmpCompareInt | refine Le.bd ?_ fun _ => ?_ | refine Le.ite ?_ ?_ | refine Le.ix fun _ => ?_ | refine Le.loop fun _ => ?_ | refine Le.sum (fun _ => ?_) (fun _ => ?_) | intro _)
def cSlicesBinarySearchFuncMarkMarkIntL1 (n : Nat) (x : List MarkMark) (target : Int) (cmp : MarkMark → Int → Option Int) (st : Int × Int) : Option ((Int × Int) ⊕ Int) :=
 if st.1 < st.2 then
 if (0 : Int) ≤ 1 then
 ix x (IntKind.wrap .i64 (Int.fdiv (IntKind.wrap .u64 (IntKind.wrap .i64 (st.1 + st.2))) (2 ^ min (Int.toNat 1) (IntKind.bits .u64)))) fun y =>
 bd (cmp y target) fun rA =>
 bd (
   if rA < 0 then
   some (IntKind.wrap .i64 ((IntKind.wrap .i64 (Int.fdiv (IntKind.wrap .u64 (IntKind.wrap .i64 (st.1 + st.2))) (2 ^ min (Int.toNat 1) (IntKind.bits .u64)))) + 1), st.2)
   else
   some (st.1, IntKind.wrap .i64 (Int.fdiv (IntKind.wrap .u64 (IntKind.wrap .i64 (st.1 + st.2))) (2 ^ min (Int.toNat 1) (IntKind.bits .u64)))) : Option (Int × Int)) fun w1 =>
 some (.inl (w1.1, w1.2))
 else none
 else
 some (.inr st.1)
theorem leSlicesBinarySearchFuncMarkMarkIntL1 (n : Nat) (x : List MarkMark) (target : Int) (cmp cmpA : MarkMark → Int → Option Int) (hcmp : ∀ u0 u1, Le (cmp u0 u1) (cmpA u0 u1)) (st : Int × Int) : Le (cSlicesBinarySearchFuncMarkMarkIntL1 n x target cmp st) (tSlicesBinarySearchFuncMarkMarkIntL1 x target cmpA st) := by
  unfold cSlicesBinarySearchFuncMarkMarkIntL1 tSlicesBinarySearchFuncMarkMarkIntL1
  repeat' (first | exact Le.rfl' _ | apply leCmpIsNaNInt | apply leCmpCompareInt | apply leMarkHearF1 | exact hcmp _ _ _ | exact hcmp _ _ | exact hcmp _ | exact hcmp | refine Le.bd ?_ fun _ => ?_ | refine Le.ite ?_ ?_ | refine Le.ix fun _ => ?_ | refine Le.loop fun _ => ?_ | refine Le.sum (fun _ => ?_) (fun _ => ?_) | intro _)
def cSlicesBinarySearchFuncMarkMarkInt (n : Nat) (x : List MarkMark) (target : Int) (cmp : MarkMark → Int → Option Int) : Option (Int × Bool) :=
 bd (LoopC n ((cSlicesBinarySearchFuncMarkMarkIntL1 n) x target cmp) (0, (x.length : Int))) fun w =>
 bd (
   if w < (x.length : Int) then
   ix x w fun y1 =>
   bd (cmp y1 target) fun rA1 =>
   some (w, decide (rA1 = 0))
   else
   some (w, false) : Option (Int × Bool)) fun w2 =>
 some (w2.1, w2.2)
theorem leSlicesBinarySearchFuncMarkMarkInt (n : Nat) (x : List MarkMark) (target : Int) (cmp cmpA : MarkMark → Int → Option Int) (hcmp : ∀ u0 u1, Le (cmp u0 u1) (cmpA u0 u1)) : Le (cSlicesBinarySearchFuncMarkMarkInt n x target cmp) (tSlicesBinarySearchFuncMarkMarkInt x target cmpA) := by
  unfold cSlicesBinarySearchFuncMarkMarkInt tSlicesBinarySearchFuncMarkMarkInt
  repeat' (first | exact Le.rfl' _ | apply leCmpIsNaNInt | apply leCmpCompareInt | apply leMarkHearF1 | apply leSlicesBinarySearchFuncMarkMarkIntL1 | exact hcmp _ _ _ | exact hcmp _ _ | exact hcmp _ | exact hcmp | refine Le.bd ?_ fun _ => ?_ | refine Le.ite ?_ ?_ | refine Le.ix fun _ => ?_ | refine Le.loop fun _ => ?_ | refine Le.sum (fun _ => ?_) (fun _ => ?_) | intro _)
def cSizeSizePair (n : Nat) (sA : SizeSize) : Option (Nat × Nat) :=
 some (FloatKind.nearest .f64 sA.F, FloatKind.nearest .f64 sA.T)
theorem leSizeSizePair (n : Nat) (sA : SizeSize) : Le (cSizeSizePair n sA) (tSizeSizePair sA) := by
  unfold cSizeSizePair tSizeSizePair
  repeat' (first | exact Le.rfl' _ | apply leCmpIsNaNInt | apply leCmpCompareInt | apply leMarkHearF1 | apply leSlicesBinarySearchFuncMarkMarkInt | refine Le.bd ?_ fun _ => ?_ | refine Le.ite ?_ ?_ | refine Le.ix fun _ => ?_ | refine Le.loop fun _ => ?_ | refine Le.sum (fun _ => ?_) (fun _ => ?_) | intro _)
def cSizeSizeOf (n : Nat) (sA : SizeSize) (times : Nat × Nat) : Option Int :=
 bd ((cSizeSizePair n) sA) fun rA =>
 bd (FloatKind.f64.format.mul rA.1 times.1) fun f =>
 bd (FloatKind.f64.format.mul rA.2 times.2) fun f1 =>
 bd (FloatKind.f64.format.add f f1) fun f2 =>
 bd ((FloatKind.decode .f64 f2).toInt .zero) fun n =>
 if IntKind.min .i64 ≤ n ∧ n ≤ IntKind.max .i64 then
 some (IntKind.wrap .i64 (n + 1))
 else none
theorem leSizeSizeOf (n : Nat) (sA : SizeSize) (times : Nat × Nat) : Le (cSizeSizeOf n sA times) (tSizeSizeOf sA times) := by
  unfold cSizeSizeOf tSizeSizeOf
  repeat' (first | exact Le.rfl' _ | apply leCmpIsNaNInt | apply leCmpCompareInt | apply leMarkHearF1 | apply leSlicesBinarySearchFuncMarkMarkInt | apply leSizeSizePair | refine Le.bd ?_ fun _ => ?_ | refine Le.ite ?_ ?_ | refine Le.ix fun _ => ?_ | refine Le.loop fun _ => ?_ | refine Le.sum (fun _ => ?_) (fun _ => ?_) | intro _)
def cSizeN (n : Nat) (sA : SizeSize) : Option Int :=
 bd ((cSizeSizeOf n) sA (4613937818241073152, 4611686018427387904)) fun rA =>
 some rA
theorem leSizeN (n : Nat) (sA : SizeSize) : Le (cSizeN n sA) (tSizeN sA) := by
  unfold cSizeN tSizeN
  repeat' (first | exact Le.rfl' _ | apply leCmpIsNaNInt | apply leCmpCompareInt | apply leMarkHearF1 | apply leSlicesBinarySearchFuncMarkMarkInt | apply leSizeSizePair | apply leSizeSizeOf | refine Le.bd ?_ fun _ => ?_ | refine Le.ite ?_ ?_ | refine Le.ix fun _ => ?_ | refine Le.loop fun _ => ?_ | refine Le.sum (fun _ => ?_) (fun _ => ?_) | intro _)
def cMarkMarksMay (n : Nat) (m : MarkMarks) (x : MarkMark) : Option Bool :=
 bd (
   if (0 : Int) ≤ x.By then
   bd ((cSizeN n) m.S) fun rA =>
   if x.By < rA then
   if (1 : Int) ≤ x.Slot then
   some (decide (x.Slot ≤ 100000))
   else
   some false
   else
   some false
   else
   some false : Option Bool) fun w =>
 some w
theorem leMarkMarksMay (n : Nat) (m : MarkMarks) (x : MarkMark) : Le (cMarkMarksMay n m x) (tMarkMarksMay m x) := by
  unfold cMarkMarksMay tMarkMarksMay
  repeat' (first | exact Le.rfl' _ | apply leCmpIsNaNInt | apply leCmpCompareInt | apply leMarkHearF1 | apply leSlicesBinarySearchFuncMarkMarkInt | apply leSizeSizePair | apply leSizeSizeOf | apply leSizeN | refine Le.bd ?_ fun _ => ?_ | refine Le.ite ?_ ?_ | refine Le.ix fun _ => ?_ | refine Le.loop fun _ => ?_ | refine Le.sum (fun _ => ?_) (fun _ => ?_) | intro _)
def cMarkBehindF1 (n : Nat) (x : MarkMark) (c : Int) : Option Bool :=
 some (decide (c ≤ x.Slot))
theorem leMarkBehindF1 (n : Nat) (x : MarkMark) (c : Int) : Le (cMarkBehindF1 n x c) (tMarkBehindF1 x c) := by
  unfold cMarkBehindF1 tMarkBehindF1
  repeat' (first | exact Le.rfl' _ | apply leCmpIsNaNInt | apply leCmpCompareInt | apply leMarkHearF1 | apply leSlicesBinarySearchFuncMarkMarkInt | apply leSizeSizePair | apply leSizeSizeOf | apply leSizeN | apply leMarkMarksMay | refine Le.bd ?_ fun _ => ?_ | refine Le.ite ?_ ?_ | refine Le.ix fun _ => ?_ | refine Le.loop fun _ => ?_ | refine Le.sum (fun _ => ?_) (fun _ => ?_) | intro _)
def cMarkMarksSayF1 (n : Nat) (x : MarkMark) (c : Int) (c1 : Hash) : Option Bool :=
 bd (
   if x.Slot = c then
   some (decide (x.Sum = c1))
   else
   some false : Option Bool) fun w =>
 some w
theorem leMarkMarksSayF1 (n : Nat) (x : MarkMark) (c : Int) (c1 : Hash) : Le (cMarkMarksSayF1 n x c c1) (tMarkMarksSayF1 x c c1) := by
  unfold cMarkMarksSayF1 tMarkMarksSayF1
  repeat' (first | exact Le.rfl' _ | apply leCmpIsNaNInt | apply leCmpCompareInt | apply leMarkHearF1 | apply leSlicesBinarySearchFuncMarkMarkInt | apply leSizeSizePair | apply leSizeSizeOf | apply leSizeN | apply leMarkMarksMay | apply leMarkBehindF1 | refine Le.bd ?_ fun _ => ?_ | refine Le.ite ?_ ?_ | refine Le.ix fun _ => ?_ | refine Le.loop fun _ => ?_ | refine Le.sum (fun _ => ?_) (fun _ => ?_) | intro _)
def cMarkMarksCountL1 (n : Nat) (m : MarkMarks) (isA : MarkMark → Option Bool) (st : Int × Int) : Option ((Int × Int) ⊕ Int) :=
 if st.2 < (m.L.length : Int) then
 ix m.L st.2 fun y =>
 bd (isA y) fun rA =>
 bd (
   if rA then
   some (IntKind.wrap .i64 (st.1 + 1))
   else
   some st.1 : Option Int) fun w1 =>
 some (.inl (w1, IntKind.wrap .i64 (st.2 + 1)))
 else
 some (.inr st.1)
theorem leMarkMarksCountL1 (n : Nat) (m : MarkMarks) (isA isAA : MarkMark → Option Bool) (hisA : ∀ u0, Le (isA u0) (isAA u0)) (st : Int × Int) : Le (cMarkMarksCountL1 n m isA st) (tMarkMarksCountL1 m isAA st) := by
  unfold cMarkMarksCountL1 tMarkMarksCountL1
  repeat' (first | exact Le.rfl' _ | apply leCmpIsNaNInt | apply leCmpCompareInt | apply leMarkHearF1 | apply leSlicesBinarySearchFuncMarkMarkInt | apply leSizeSizePair | apply leSizeSizeOf | apply leSizeN | apply leMarkMarksMay | apply leMarkBehindF1 | apply leMarkMarksSayF1 | exact hisA _ _ _ | exact hisA _ _ | exact hisA _ | exact hisA | refine Le.bd ?_ fun _ => ?_ | refine Le.ite ?_ ?_ | refine Le.ix fun _ => ?_ | refine Le.loop fun _ => ?_ | refine Le.sum (fun _ => ?_) (fun _ => ?_) | intro _)
def cMarkMarksCount (n : Nat) (m : MarkMarks) (isA : MarkMark → Option Bool) : Option Int :=
 bd (LoopC n ((cMarkMarksCountL1 n) m isA) (0, 0)) fun w =>
 some w
theorem leMarkMarksCount (n : Nat) (m : MarkMarks) (isA isAA : MarkMark → Option Bool) (hisA : ∀ u0, Le (isA u0) (isAA u0)) : Le (cMarkMarksCount n m isA) (tMarkMarksCount m isAA) := by
  unfold cMarkMarksCount tMarkMarksCount
  repeat' (first | exact Le.rfl' _ | apply leCmpIsNaNInt | apply leCmpCompareInt | apply leMarkHearF1 | apply leSlicesBinarySearchFuncMarkMarkInt | apply leSizeSizePair | apply leSizeSizeOf | apply leSizeN | apply leMarkMarksMay | apply leMarkBehindF1 | apply leMarkMarksSayF1 | apply leMarkMarksCountL1 | exact hisA _ _ _ | exact hisA _ _ | exact hisA _ | exact hisA | refine Le.bd ?_ fun _ => ?_ | refine Le.ite ?_ ?_ | refine Le.ix fun _ => ?_ | refine Le.loop fun _ => ?_ | refine Le.sum (fun _ => ?_) (fun _ => ?_) | intro _)
def cMarkMarksSay (n : Nat) (m : MarkMarks) (slot : Int) (sum : Hash) : Option Int :=
 bd ((cMarkMarksCount n) m (fun u => (cMarkMarksSayF1 n) u slot sum)) fun rA =>
 some rA
theorem leMarkMarksSay (n : Nat) (m : MarkMarks) (slot : Int) (sum : Hash) : Le (cMarkMarksSay n m slot sum) (tMarkMarksSay m slot sum) := by
  unfold cMarkMarksSay tMarkMarksSay
  repeat' (first | exact Le.rfl' _ | apply leCmpIsNaNInt | apply leCmpCompareInt | apply leMarkHearF1 | apply leSlicesBinarySearchFuncMarkMarkInt | apply leSizeSizePair | apply leSizeSizeOf | apply leSizeN | apply leMarkMarksMay | apply leMarkBehindF1 | apply leMarkMarksSayF1 | apply leMarkMarksCount | refine Le.bd ?_ fun _ => ?_ | refine Le.ite ?_ ?_ | refine Le.ix fun _ => ?_ | refine Le.loop fun _ => ?_ | refine Le.sum (fun _ => ?_) (fun _ => ?_) | intro _)
def cSizeProof (n : Nat) (sA : SizeSize) : Option Int :=
 bd ((cSizeSizeOf n) sA (4611686018427387904, 4607182418800017408)) fun rA =>
 some rA
theorem leSizeProof (n : Nat) (sA : SizeSize) : Le (cSizeProof n sA) (tSizeProof sA) := by
  unfold cSizeProof tSizeProof
  repeat' (first | exact Le.rfl' _ | apply leCmpIsNaNInt | apply leCmpCompareInt | apply leMarkHearF1 | apply leSlicesBinarySearchFuncMarkMarkInt | apply leSizeSizePair | apply leSizeSizeOf | apply leSizeN | apply leMarkMarksMay | apply leMarkBehindF1 | apply leMarkMarksSayF1 | apply leMarkMarksCount | apply leMarkMarksSay | refine Le.bd ?_ fun _ => ?_ | refine Le.ite ?_ ?_ | refine Le.ix fun _ => ?_ | refine Le.loop fun _ => ?_ | refine Le.sum (fun _ => ?_) (fun _ => ?_) | intro _)
def cMarkHear (n : Nat) (a : MarkMarks) (a1 : MarkMark) : Option (MarkMarks × Bool) :=
 bd ((cSlicesBinarySearchFuncMarkMarkInt n) a.L a1.By (cMarkHearF1 n)) fun rA =>
 bd (
   bd ((cMarkMarksMay n) a a1) fun rA1 =>
   if !rA1 then
   some true
   else
   if rA.2 then
   ix a.L rA.1 fun y =>
   some (decide (a1.Slot ≤ y.Slot))
   else
   some false : Option Bool) fun w =>
 if w then
 some (a, false)
 else
 bd (tClone 48 a.L) fun rA2 =>
 bd (
   if rA.2 then
   ix rA2 rA.1 fun y1 =>
   some (a.S.F, a.S.T, rA2.set (Int.toNat rA.1) a1, a.Stable, a.Sum)
   else
   bd (tInsert 48 rA2 rA.1 ([a1] : List MarkMark)) fun rA3 =>
   some (a.S.F, a.S.T, rA3, a.Stable, a.Sum) : Option (Int × Int × (List MarkMark) × Int × Hash)) fun w1 =>
 bd (
   if a1.Slot ≤ w1.2.2.2.1 then
   some true
   else
   bd ((cMarkMarksSay n) (⟨(⟨w1.1, w1.2.1⟩ : SizeSize), w1.2.2.1, w1.2.2.2.1, w1.2.2.2.2⟩ : MarkMarks) a1.Slot a1.Sum) fun rA4 =>
   bd ((cSizeProof n) (⟨w1.1, w1.2.1⟩ : SizeSize)) fun rA5 =>
   some (decide (rA4 < rA5)) : Option Bool) fun w2 =>
 if w2 then
 some ((⟨(⟨w1.1, w1.2.1⟩ : SizeSize), w1.2.2.1, w1.2.2.2.1, w1.2.2.2.2⟩ : MarkMarks), false)
 else
 some ((⟨(⟨w1.1, w1.2.1⟩ : SizeSize), w1.2.2.1, a1.Slot, a1.Sum⟩ : MarkMarks), true)
theorem leMarkHear (n : Nat) (a : MarkMarks) (a1 : MarkMark) : Le (cMarkHear n a a1) (tMarkHear a a1) := by
  unfold cMarkHear tMarkHear
  repeat' (first | exact Le.rfl' _ | apply leCmpIsNaNInt | apply leCmpCompareInt | apply leMarkHearF1 | apply leSlicesBinarySearchFuncMarkMarkInt | apply leSizeSizePair | apply leSizeSizeOf | apply leSizeN | apply leMarkMarksMay | apply leMarkBehindF1 | apply leMarkMarksSayF1 | apply leMarkMarksCount | apply leMarkMarksSay | apply leSizeProof | refine Le.bd ?_ fun _ => ?_ | refine Le.ite ?_ ?_ | refine Le.ix fun _ => ?_ | refine Le.loop fun _ => ?_ | refine Le.sum (fun _ => ?_) (fun _ => ?_) | intro _)
def cSizeWeak (n : Nat) (sA : SizeSize) : Option Int :=
 bd ((cSizeSizeOf n) sA (4607182418800017408, 0)) fun rA =>
 some rA
theorem leSizeWeak (n : Nat) (sA : SizeSize) : Le (cSizeWeak n sA) (tSizeWeak sA) := by
  unfold cSizeWeak tSizeWeak
  repeat' (first | exact Le.rfl' _ | apply leCmpIsNaNInt | apply leCmpCompareInt | apply leMarkHearF1 | apply leSlicesBinarySearchFuncMarkMarkInt | apply leSizeSizePair | apply leSizeSizeOf | apply leSizeN | apply leMarkMarksMay | apply leMarkBehindF1 | apply leMarkMarksSayF1 | apply leMarkMarksCount | apply leMarkMarksSay | apply leSizeProof | apply leMarkHear | refine Le.bd ?_ fun _ => ?_ | refine Le.ite ?_ ?_ | refine Le.ix fun _ => ?_ | refine Le.loop fun _ => ?_ | refine Le.sum (fun _ => ?_) (fun _ => ?_) | intro _)
def cMarkTrusted (n : Nat) (m : MarkMarks) (slot : Int) (sum : Hash) : Option Bool :=
 bd ((cMarkMarksSay n) m slot sum) fun rA =>
 bd ((cSizeWeak n) m.S) fun rA1 =>
 some (decide (rA1 ≤ rA))
theorem leMarkTrusted (n : Nat) (m : MarkMarks) (slot : Int) (sum : Hash) : Le (cMarkTrusted n m slot sum) (tMarkTrusted m slot sum) := by
  unfold cMarkTrusted tMarkTrusted
  repeat' (first | exact Le.rfl' _ | apply leCmpIsNaNInt | apply leCmpCompareInt | apply leMarkHearF1 | apply leSlicesBinarySearchFuncMarkMarkInt | apply leSizeSizePair | apply leSizeSizeOf | apply leSizeN | apply leMarkMarksMay | apply leMarkBehindF1 | apply leMarkMarksSayF1 | apply leMarkMarksCount | apply leMarkMarksSay | apply leSizeProof | apply leMarkHear | apply leSizeWeak | refine Le.bd ?_ fun _ => ?_ | refine Le.ite ?_ ?_ | refine Le.ix fun _ => ?_ | refine Le.loop fun _ => ?_ | refine Le.sum (fun _ => ?_) (fun _ => ?_) | intro _)
def cMarkBehind (n : Nat) (m : MarkMarks) (slot : Int) : Option Int :=
 bd ((cMarkMarksCount n) m (fun u => (cMarkBehindF1 n) u slot)) fun rA =>
 some rA
theorem leMarkBehind (n : Nat) (m : MarkMarks) (slot : Int) : Le (cMarkBehind n m slot) (tMarkBehind m slot) := by
  unfold cMarkBehind tMarkBehind
  repeat' (first | exact Le.rfl' _ | apply leCmpIsNaNInt | apply leCmpCompareInt | apply leMarkHearF1 | apply leSlicesBinarySearchFuncMarkMarkInt | apply leSizeSizePair | apply leSizeSizeOf | apply leSizeN | apply leMarkMarksMay | apply leMarkBehindF1 | apply leMarkMarksSayF1 | apply leMarkMarksCount | apply leMarkMarksSay | apply leSizeProof | apply leMarkHear | apply leSizeWeak | apply leMarkTrusted | refine Le.bd ?_ fun _ => ?_ | refine Le.ite ?_ ?_ | refine Le.ix fun _ => ?_ | refine Le.loop fun _ => ?_ | refine Le.sum (fun _ => ?_) (fun _ => ?_) | intro _)
def cSizeRight (n : Nat) (sA : SizeSize) : Option Bool :=
 bd (
   if (1 : Int) ≤ sA.F then
   if sA.F ≤ 5 then
   if (0 : Int) ≤ sA.T then
   some (decide (sA.T ≤ sA.F))
   else
   some false
   else
   some false
   else
   some false : Option Bool) fun w =>
 some w
theorem leSizeRight (n : Nat) (sA : SizeSize) : Le (cSizeRight n sA) (tSizeRight sA) := by
  unfold cSizeRight tSizeRight
  repeat' (first | exact Le.rfl' _ | apply leCmpIsNaNInt | apply leCmpCompareInt | apply leMarkHearF1 | apply leSlicesBinarySearchFuncMarkMarkInt | apply leSizeSizePair | apply leSizeSizeOf | apply leSizeN | apply leMarkMarksMay | apply leMarkBehindF1 | apply leMarkMarksSayF1 | apply leMarkMarksCount | apply leMarkMarksSay | apply leSizeProof | apply leMarkHear | apply leSizeWeak | apply leMarkTrusted | apply leMarkBehind | refine Le.bd ?_ fun _ => ?_ | refine Le.ite ?_ ?_ | refine Le.ix fun _ => ?_ | refine Le.loop fun _ => ?_ | refine Le.sum (fun _ => ?_) (fun _ => ?_) | intro _)
def cMarkNew (n : Nat) (sA : SizeSize) : Option (MarkMarks × Int) :=
 bd ((cSizeRight n) sA) fun rA =>
 if !rA then
 some ((⟨(⟨0, 0⟩ : SizeSize), ([] : List MarkMark), 0, Hash.zero⟩ : MarkMarks), 1)
 else
 some ((⟨sA, ([] : List MarkMark), 0, Hash.zero⟩ : MarkMarks), 0)
theorem leMarkNew (n : Nat) (sA : SizeSize) : Le (cMarkNew n sA) (tMarkNew sA) := by
  unfold cMarkNew tMarkNew
  repeat' (first | exact Le.rfl' _ | apply leCmpIsNaNInt | apply leCmpCompareInt | apply leMarkHearF1 | apply leSlicesBinarySearchFuncMarkMarkInt | apply leSizeSizePair | apply leSizeSizeOf | apply leSizeN | apply leMarkMarksMay | apply leMarkBehindF1 | apply leMarkMarksSayF1 | apply leMarkMarksCount | apply leMarkMarksSay | apply leSizeProof | apply leMarkHear | apply leSizeWeak | apply leMarkTrusted | apply leMarkBehind | apply leSizeRight | refine Le.bd ?_ fun _ => ?_ | refine Le.ite ?_ ?_ | refine Le.ix fun _ => ?_ | refine Le.loop fun _ => ?_ | refine Le.sum (fun _ => ?_) (fun _ => ?_) | intro _)
def cL26AliveL1 (n : Nat) (st : Int × Int × (List MarkMark) × Int × Hash × Bool × Int) : Option ((Int × Int × (List MarkMark) × Int × Hash × Bool × Int) ⊕ (Int × Int × (List MarkMark) × Int × Hash × Bool)) :=
 if st.2.2.2.2.2.2 < 3 then
 if isByte 7 then
 bd ((cMarkHear n) (⟨(⟨st.1, st.2.1⟩ : SizeSize), st.2.2.1, st.2.2.2.1, st.2.2.2.2.1⟩ : MarkMarks) (⟨st.2.2.2.2.2.2, 2, Hash.zero.put 0 (UInt8.ofNat (Int.toNat 7))⟩ : MarkMark)) fun rA1 =>
 some (.inl (rA1.1.S.F, rA1.1.S.T, rA1.1.L, rA1.1.Stable, rA1.1.Sum, rA1.2, IntKind.wrap .i64 (st.2.2.2.2.2.2 + 1)))
 else none
 else
 some (.inr (st.1, st.2.1, st.2.2.1, st.2.2.2.1, st.2.2.2.2.1, st.2.2.2.2.2.1))
theorem leL26AliveL1 (n : Nat) (st : Int × Int × (List MarkMark) × Int × Hash × Bool × Int) : Le (cL26AliveL1 n st) (tL26AliveL1 st) := by
  unfold cL26AliveL1 tL26AliveL1
  repeat' (first | exact Le.rfl' _ | apply leCmpIsNaNInt | apply leCmpCompareInt | apply leMarkHearF1 | apply leSlicesBinarySearchFuncMarkMarkInt | apply leSizeSizePair | apply leSizeSizeOf | apply leSizeN | apply leMarkMarksMay | apply leMarkBehindF1 | apply leMarkMarksSayF1 | apply leMarkMarksCount | apply leMarkMarksSay | apply leSizeProof | apply leMarkHear | apply leSizeWeak | apply leMarkTrusted | apply leMarkBehind | apply leSizeRight | apply leMarkNew | refine Le.bd ?_ fun _ => ?_ | refine Le.ite ?_ ?_ | refine Le.ix fun _ => ?_ | refine Le.loop fun _ => ?_ | refine Le.sum (fun _ => ?_) (fun _ => ?_) | intro _)
def cL26Alive (n : Nat) : Option Bool :=
 bd ((cMarkNew n) (⟨1, 0⟩ : SizeSize)) fun rA =>
 bd (LoopC n (cL26AliveL1 n) (rA.1.S.F, rA.1.S.T, rA.1.L, rA.1.Stable, rA.1.Sum, false, 0)) fun w =>
 bd (
   if rA.2 = 0 then
   if w.2.2.2.2.2 then
   if w.2.2.2.1 = 2 then
   if (0 : Int) ≤ 0 ∧ (0 : Int) < 32 then
   if ((w.2.2.2.2.1.l.getD (Int.toNat 0) 0).toNat : Int) = 7 then
   if isByte 7 then
   bd ((cMarkTrusted n) (⟨(⟨w.1, w.2.1⟩ : SizeSize), w.2.2.1, w.2.2.2.1, w.2.2.2.2.1⟩ : MarkMarks) 2 (Hash.zero.put 0 (UInt8.ofNat (Int.toNat 7)))) fun rA2 =>
   if rA2 then
   bd ((cMarkBehind n) (⟨(⟨w.1, w.2.1⟩ : SizeSize), w.2.2.1, w.2.2.2.1, w.2.2.2.2.1⟩ : MarkMarks) 2) fun rA3 =>
   some (decide (rA3 = 3))
   else
   some false
   else none
   else
   some false
   else none
   else
   some false
   else
   some false
   else
   some false : Option Bool) fun w1 =>
 some w1
theorem leL26Alive (n : Nat) : Le (cL26Alive n) (tL26Alive) := by
  unfold cL26Alive tL26Alive
  repeat' (first | exact Le.rfl' _ | apply leCmpIsNaNInt | apply leCmpCompareInt | apply leMarkHearF1 | apply leSlicesBinarySearchFuncMarkMarkInt | apply leSizeSizePair | apply leSizeSizeOf | apply leSizeN | apply leMarkMarksMay | apply leMarkBehindF1 | apply leMarkMarksSayF1 | apply leMarkMarksCount | apply leMarkMarksSay | apply leSizeProof | apply leMarkHear | apply leSizeWeak | apply leMarkTrusted | apply leMarkBehind | apply leSizeRight | apply leMarkNew | apply leL26AliveL1 | refine Le.bd ?_ fun _ => ?_ | refine Le.ite ?_ ?_ | refine Le.ix fun _ => ?_ | refine Le.loop fun _ => ?_ | refine Le.sum (fun _ => ?_) (fun _ => ?_) | intro _)
theorem evL26Alive : tL26Alive = some true := leL26Alive 200 _ (by decide +kernel)
end Dn.S
