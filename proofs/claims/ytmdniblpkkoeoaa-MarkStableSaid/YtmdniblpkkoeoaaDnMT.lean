import Derived.Test.YtmdniblpkkoeoaaDnC
/-
  The functions, on typed values. Conditions: none.
-/
open Go Dn
set_option linter.unusedVariables false
set_option linter.unusedSimpArgs false
set_option maxRecDepth 100000
namespace Dn.S
structure R07Size where
  F : Int
  T : Int
deriving DecidableEq
@[reducible] def lvR07Size (x : R07Size) : List MV := [.i .i64 x.F, .i .i64 x.T]
@[reducible] def encR07Size (x : R07Size) : MV := .agg (lvR07Size x)
structure R26Mark where
  By : Int
  Slot : Int
  Sum : Hash
deriving DecidableEq
@[reducible] def lvR26Mark (x : R26Mark) : List MV := [.i .i64 x.By, .i .i64 x.Slot, .h x.Sum]
@[reducible] def encR26Mark (x : R26Mark) : MV := .agg (lvR26Mark x)
structure R26Marks where
  S : R07Size
  L : List R26Mark
  Stable : Int
  Sum : Hash
deriving DecidableEq
@[reducible] def lvR26Marks (x : R26Marks) : List MV := [.i .i64 x.S.F, .i .i64 x.S.T, .list (x.L.map encR26Mark), .i .i64 x.Stable, .h x.Sum]
@[reducible] def encR26Marks (x : R26Marks) : MV := .agg (lvR26Marks x)
structure MarkMark where
  By : Int
  Slot : Int
  Sum : Hash
deriving DecidableEq
@[reducible] def lvMarkMark (x : MarkMark) : List MV := [.i .i64 x.By, .i .i64 x.Slot, .h x.Sum]
@[reducible] def encMarkMark (x : MarkMark) : MV := .agg (lvMarkMark x)
structure SizeSize where
  F : Int
  T : Int
deriving DecidableEq
@[reducible] def lvSizeSize (x : SizeSize) : List MV := [.i .i64 x.F, .i .i64 x.T]
@[reducible] def encSizeSize (x : SizeSize) : MV := .agg (lvSizeSize x)
structure MarkMarks where
  S : SizeSize
  L : List MarkMark
  Stable : Int
  Sum : Hash
deriving DecidableEq
@[reducible] def lvMarkMarks (x : MarkMarks) : List MV := [.i .i64 x.S.F, .i .i64 x.S.T, .list (x.L.map encMarkMark), .i .i64 x.Stable, .h x.Sum]
@[reducible] def encMarkMarks (x : MarkMarks) : MV := .agg (lvMarkMarks x)
noncomputable def tR07Right (sA : R07Size) : Option Bool :=
 bd (
   if (1 : Int) ≤ sA.F then
   if sA.F ≤ 5 then
   if (0 : Int) ≤ sA.T then
   some (decide (sA.T ≤ sA.F))
   else
   some false
   else
   some false
   else
   some false : Option Bool) fun w =>
 some w
noncomputable def tR07N (sA : R07Size) : Option Int :=
 some (IntKind.wrap .i64 ((IntKind.wrap .i64 ((IntKind.wrap .i64 (3 * sA.F)) + (IntKind.wrap .i64 (2 * sA.T)))) + 1))
noncomputable def tR26May (sA : R07Size) (x : R26Mark) : Option Bool :=
 bd (
   if (0 : Int) ≤ x.By then
   bd (tR07N sA) fun rA =>
   if x.By < rA then
   if (1 : Int) ≤ x.Slot then
   some (decide (x.Slot ≤ 100000))
   else
   some false
   else
   some false
   else
   some false : Option Bool) fun w =>
 some w
noncomputable def tR26RightL1 (a : R26Marks) (st : Int) : Option (Int ⊕ (Unit ⊕ Bool)) :=
 if st < (a.L.length : Int) then
 bd (
   ix a.L st fun y =>
   bd (tR26May a.S y) fun rA1 =>
   if !rA1 then
   some true
   else
   if (0 : Int) < st then
   ix a.L (IntKind.wrap .i64 (st - 1)) fun y1 =>
   ix a.L st fun y2 =>
   some (decide (y2.By ≤ y1.By))
   else
   some false : Option Bool) fun w2 =>
 if w2 then
 some (.inr (.inr false))
 else
 some (.inl (IntKind.wrap .i64 (st + 1)))
 else
 some (.inr (.inl ()))
noncomputable def tR26Right (a : R26Marks) : Option Bool :=
 bd (
   bd (tR07Right a.S) fun rA =>
   if !rA then
   some true
   else
   if a.Stable < 0 then
   some true
   else
   if (100000 : Int) < a.Stable then
   some true
   else
   if a.Stable = 0 then
   some (!(decide (a.Sum = Hash.zero)))
   else
   some false : Option Bool) fun w =>
 if w then
 some false
 else
 bd (Loop (tR26RightL1 a) 0) fun w1 =>
 match w1 with
 | .inl p1 =>
   some true
 | .inr p2 =>
   some p2
noncomputable def tL26One (x : MarkMark) : Option R26Mark :=
 some (⟨x.By, x.Slot, x.Sum⟩ : R26Mark)
noncomputable def tL26Sized (sA : SizeSize) : Option R07Size :=
 some (⟨sA.F, sA.T⟩ : R07Size)
noncomputable def tL26PlainL1 (m : MarkMarks) (st : Int × Int × (List R26Mark) × Int × Hash × Int) : Option ((Int × Int × (List R26Mark) × Int × Hash × Int) ⊕ (Int × Int × (List R26Mark) × Int × Hash)) :=
 if st.2.2.2.2.2 < (m.L.length : Int) then
 ix m.L st.2.2.2.2.2 fun y =>
 bd (tL26One y) fun rA1 =>
 if (st.2.2.1.length + ([rA1] : List R26Mark).length) * 48 ≤ 2 ^ 46 then
 some (.inl (st.1, st.2.1, st.2.2.1 ++ ([rA1] : List R26Mark), st.2.2.2.1, st.2.2.2.2.1, IntKind.wrap .i64 (st.2.2.2.2.2 + 1)))
 else none
 else
 some (.inr (st.1, st.2.1, st.2.2.1, st.2.2.2.1, st.2.2.2.2.1))
noncomputable def tL26Plain (m : MarkMarks) : Option R26Marks :=
 bd (tL26Sized m.S) fun rA =>
 bd (Loop (tL26PlainL1 m) (rA.F, rA.T, ([] : List R26Mark), m.Stable, m.Sum, 0)) fun w =>
 some (⟨(⟨w.1, w.2.1⟩ : R07Size), w.2.2.1, w.2.2.2.1, w.2.2.2.2⟩ : R26Marks)
noncomputable def tCmpIsNaNInt (x : Int) : Option Bool :=
 some (!decide (x = x))
noncomputable def tCmpCompareInt (x : Int) (y : Int) : Option Int :=
 bd (tCmpIsNaNInt x) fun rA =>
 bd (tCmpIsNaNInt y) fun rA1 =>
 if rA then
 if rA1 then
 some 0
 else
 some (-1)
 else
 if rA1 then
 some 1
 else
 if x < y then
 some (-1)
 else
 if y < x then
 some 1
 else
 some 0
noncomputable def tMarkHearF1 (y : MarkMark) (byA : Int) : Option Int :=
 bd (tCmpCompareInt y.By byA) fun rA =>
 some rA
noncomputable def tSlicesBinarySearchFuncMarkMarkIntL1 (x : List MarkMark) (target : Int) (cmp : MarkMark → Int → Option Int) (st : Int × Int) : Option ((Int × Int) ⊕ Int) :=
 if st.1 < st.2 then
 if (0 : Int) ≤ 1 then
 ix x (IntKind.wrap .i64 (Int.fdiv (IntKind.wrap .u64 (IntKind.wrap .i64 (st.1 + st.2))) (2 ^ min (Int.toNat 1) (IntKind.bits .u64)))) fun y =>
 bd (cmp y target) fun rA =>
 bd (
   if rA < 0 then
   some (IntKind.wrap .i64 ((IntKind.wrap .i64 (Int.fdiv (IntKind.wrap .u64 (IntKind.wrap .i64 (st.1 + st.2))) (2 ^ min (Int.toNat 1) (IntKind.bits .u64)))) + 1), st.2)
   else
   some (st.1, IntKind.wrap .i64 (Int.fdiv (IntKind.wrap .u64 (IntKind.wrap .i64 (st.1 + st.2))) (2 ^ min (Int.toNat 1) (IntKind.bits .u64)))) : Option (Int × Int)) fun w1 =>
 some (.inl (w1.1, w1.2))
 else none
 else
 some (.inr st.1)
noncomputable def tSlicesBinarySearchFuncMarkMarkInt (x : List MarkMark) (target : Int) (cmp : MarkMark → Int → Option Int) : Option (Int × Bool) :=
 bd (Loop (tSlicesBinarySearchFuncMarkMarkIntL1 x target cmp) (0, (x.length : Int))) fun w =>
 bd (
   if w < (x.length : Int) then
   ix x w fun y1 =>
   bd (cmp y1 target) fun rA1 =>
   some (w, decide (rA1 = 0))
   else
   some (w, false) : Option (Int × Bool)) fun w2 =>
 some (w2.1, w2.2)
noncomputable def tSizeSizePair (sA : SizeSize) : Option (Nat × Nat) :=
 some (FloatKind.nearest .f64 sA.F, FloatKind.nearest .f64 sA.T)
noncomputable def tSizeSizeOf (sA : SizeSize) (times : Nat × Nat) : Option Int :=
 bd (tSizeSizePair sA) fun rA =>
 bd (FloatKind.f64.format.mul rA.1 times.1) fun f =>
 bd (FloatKind.f64.format.mul rA.2 times.2) fun f1 =>
 bd (FloatKind.f64.format.add f f1) fun f2 =>
 bd ((FloatKind.decode .f64 f2).toInt .zero) fun n =>
 if IntKind.min .i64 ≤ n ∧ n ≤ IntKind.max .i64 then
 some (IntKind.wrap .i64 (n + 1))
 else none
noncomputable def tSizeN (sA : SizeSize) : Option Int :=
 bd (tSizeSizeOf sA (4613937818241073152, 4611686018427387904)) fun rA =>
 some rA
noncomputable def tMarkMarksMay (m : MarkMarks) (x : MarkMark) : Option Bool :=
 bd (
   if (0 : Int) ≤ x.By then
   bd (tSizeN m.S) fun rA =>
   if x.By < rA then
   if (1 : Int) ≤ x.Slot then
   some (decide (x.Slot ≤ 100000))
   else
   some false
   else
   some false
   else
   some false : Option Bool) fun w =>
 some w
noncomputable def tMarkBehindF1 (x : MarkMark) (c : Int) : Option Bool :=
 some (decide (c ≤ x.Slot))
noncomputable def tMarkMarksSayF1 (x : MarkMark) (c : Int) (c1 : Hash) : Option Bool :=
 bd (
   if x.Slot = c then
   some (decide (x.Sum = c1))
   else
   some false : Option Bool) fun w =>
 some w
noncomputable def tMarkMarksCountL1 (m : MarkMarks) (isA : MarkMark → Option Bool) (st : Int × Int) : Option ((Int × Int) ⊕ Int) :=
 if st.2 < (m.L.length : Int) then
 ix m.L st.2 fun y =>
 bd (isA y) fun rA =>
 bd (
   if rA then
   some (IntKind.wrap .i64 (st.1 + 1))
   else
   some st.1 : Option Int) fun w1 =>
 some (.inl (w1, IntKind.wrap .i64 (st.2 + 1)))
 else
 some (.inr st.1)
noncomputable def tMarkMarksCount (m : MarkMarks) (isA : MarkMark → Option Bool) : Option Int :=
 bd (Loop (tMarkMarksCountL1 m isA) (0, 0)) fun w =>
 some w
noncomputable def tMarkMarksSay (m : MarkMarks) (slot : Int) (sum : Hash) : Option Int :=
 bd (tMarkMarksCount m (fun u => tMarkMarksSayF1 u slot sum)) fun rA =>
 some rA
noncomputable def tSizeProof (sA : SizeSize) : Option Int :=
 bd (tSizeSizeOf sA (4611686018427387904, 4607182418800017408)) fun rA =>
 some rA
noncomputable def tMarkHear (a : MarkMarks) (a1 : MarkMark) : Option (MarkMarks × Bool) :=
 bd (tSlicesBinarySearchFuncMarkMarkInt a.L a1.By tMarkHearF1) fun rA =>
 bd (
   bd (tMarkMarksMay a a1) fun rA1 =>
   if !rA1 then
   some true
   else
   if rA.2 then
   ix a.L rA.1 fun y =>
   some (decide (a1.Slot ≤ y.Slot))
   else
   some false : Option Bool) fun w =>
 if w then
 some (a, false)
 else
 bd (tClone 48 a.L) fun rA2 =>
 bd (
   if rA.2 then
   ix rA2 rA.1 fun y1 =>
   some (a.S.F, a.S.T, rA2.set (Int.toNat rA.1) a1, a.Stable, a.Sum)
   else
   bd (tInsert 48 rA2 rA.1 ([a1] : List MarkMark)) fun rA3 =>
   some (a.S.F, a.S.T, rA3, a.Stable, a.Sum) : Option (Int × Int × (List MarkMark) × Int × Hash)) fun w1 =>
 bd (
   if a1.Slot ≤ w1.2.2.2.1 then
   some true
   else
   bd (tMarkMarksSay (⟨(⟨w1.1, w1.2.1⟩ : SizeSize), w1.2.2.1, w1.2.2.2.1, w1.2.2.2.2⟩ : MarkMarks) a1.Slot a1.Sum) fun rA4 =>
   bd (tSizeProof (⟨w1.1, w1.2.1⟩ : SizeSize)) fun rA5 =>
   some (decide (rA4 < rA5)) : Option Bool) fun w2 =>
 if w2 then
 some ((⟨(⟨w1.1, w1.2.1⟩ : SizeSize), w1.2.2.1, w1.2.2.2.1, w1.2.2.2.2⟩ : MarkMarks), false)
 else
 some ((⟨(⟨w1.1, w1.2.1⟩ : SizeSize), w1.2.2.1, a1.Slot, a1.Sum⟩ : MarkMarks), true)
noncomputable def tSizeWeak (sA : SizeSize) : Option Int :=
 bd (tSizeSizeOf sA (4607182418800017408, 0)) fun rA =>
 some rA
noncomputable def tMarkTrusted (m : MarkMarks) (slot : Int) (sum : Hash) : Option Bool :=
 bd (tMarkMarksSay m slot sum) fun rA =>
 bd (tSizeWeak m.S) fun rA1 =>
 some (decide (rA1 ≤ rA))
noncomputable def tMarkBehind (m : MarkMarks) (slot : Int) : Option Int :=
 bd (tMarkMarksCount m (fun u => tMarkBehindF1 u slot)) fun rA =>
 some rA
noncomputable def tSizeRight (sA : SizeSize) : Option Bool :=
 bd (
   if (1 : Int) ≤ sA.F then
   if sA.F ≤ 5 then
   if (0 : Int) ≤ sA.T then
   some (decide (sA.T ≤ sA.F))
   else
   some false
   else
   some false
   else
   some false : Option Bool) fun w =>
 some w
noncomputable def tMarkNew (sA : SizeSize) : Option (MarkMarks × Int) :=
 bd (tSizeRight sA) fun rA =>
 if !rA then
 some ((⟨(⟨0, 0⟩ : SizeSize), ([] : List MarkMark), 0, Hash.zero⟩ : MarkMarks), 1)
 else
 some ((⟨sA, ([] : List MarkMark), 0, Hash.zero⟩ : MarkMarks), 0)
noncomputable def tL26AliveL1 (st : Int × Int × (List MarkMark) × Int × Hash × Bool × Int) : Option ((Int × Int × (List MarkMark) × Int × Hash × Bool × Int) ⊕ (Int × Int × (List MarkMark) × Int × Hash × Bool)) :=
 if st.2.2.2.2.2.2 < 3 then
 if isByte 7 then
 bd (tMarkHear (⟨(⟨st.1, st.2.1⟩ : SizeSize), st.2.2.1, st.2.2.2.1, st.2.2.2.2.1⟩ : MarkMarks) (⟨st.2.2.2.2.2.2, 2, Hash.zero.put 0 (UInt8.ofNat (Int.toNat 7))⟩ : MarkMark)) fun rA1 =>
 some (.inl (rA1.1.S.F, rA1.1.S.T, rA1.1.L, rA1.1.Stable, rA1.1.Sum, rA1.2, IntKind.wrap .i64 (st.2.2.2.2.2.2 + 1)))
 else none
 else
 some (.inr (st.1, st.2.1, st.2.2.1, st.2.2.2.1, st.2.2.2.2.1, st.2.2.2.2.2.1))
noncomputable def tL26Alive : Option Bool :=
 bd (tMarkNew (⟨1, 0⟩ : SizeSize)) fun rA =>
 bd (Loop tL26AliveL1 (rA.1.S.F, rA.1.S.T, rA.1.L, rA.1.Stable, rA.1.Sum, false, 0)) fun w =>
 bd (
   if rA.2 = 0 then
   if w.2.2.2.2.2 then
   if w.2.2.2.1 = 2 then
   if (0 : Int) ≤ 0 ∧ (0 : Int) < 32 then
   if ((w.2.2.2.2.1.l.getD (Int.toNat 0) 0).toNat : Int) = 7 then
   if isByte 7 then
   bd (tMarkTrusted (⟨(⟨w.1, w.2.1⟩ : SizeSize), w.2.2.1, w.2.2.2.1, w.2.2.2.2.1⟩ : MarkMarks) 2 (Hash.zero.put 0 (UInt8.ofNat (Int.toNat 7)))) fun rA2 =>
   if rA2 then
   bd (tMarkBehind (⟨(⟨w.1, w.2.1⟩ : SizeSize), w.2.2.1, w.2.2.2.1, w.2.2.2.2.1⟩ : MarkMarks) 2) fun rA3 =>
   some (decide (rA3 = 3))
   else
   some false
   else none
   else
   some false
   else none
   else
   some false
   else
   some false
   else
   some false : Option Bool) fun w1 =>
 some w1
noncomputable def tR26CountL1 (m : R26Marks) (slot : Int) (sum : Hash) (st : Int × Int) : Option ((Int × Int) ⊕ Int) :=
 if st.2 < (m.L.length : Int) then
 bd (
   ix m.L st.2 fun y =>
   if y.Slot = slot then
   ix m.L st.2 fun y1 =>
   some (decide (y1.Sum = sum))
   else
   some false : Option Bool) fun w1 =>
 bd (
   if w1 then
   some (IntKind.wrap .i64 (st.1 + 1))
   else
   some st.1 : Option Int) fun w2 =>
 some (.inl (w2, IntKind.wrap .i64 (st.2 + 1)))
 else
 some (.inr st.1)
noncomputable def tR26Count (m : R26Marks) (slot : Int) (sum : Hash) : Option Int :=
 bd (Loop (tR26CountL1 m slot sum) (0, 0)) fun w =>
 some w
noncomputable def tR07Proof (sA : R07Size) : Option Int :=
 some (IntKind.wrap .i64 ((IntKind.wrap .i64 ((IntKind.wrap .i64 (2 * sA.F)) + sA.T)) + 1))
noncomputable def tR26HearL1 (a : R26Marks) (a1 : R26Mark) (st : Int × Int × (List R26Mark) × Int × Hash × (List R26Mark) × Bool × Int) : Option ((Int × Int × (List R26Mark) × Int × Hash × (List R26Mark) × Bool × Int) ⊕ ((Int × Int × (List R26Mark) × Int × Hash × (List R26Mark) × Bool) ⊕ (Int × Int × (List R26Mark) × Int × Hash × Bool))) :=
 if st.2.2.2.2.2.2.2 < (a.L.length : Int) then
 ix a.L st.2.2.2.2.2.2.2 fun y =>
 bd (
   if y.By = a1.By then
   some (decide (a1.Slot ≤ y.Slot))
   else
   some false : Option Bool) fun w1 =>
 if w1 then
 some (.inr (.inr (a.S.F, a.S.T, a.L, a.Stable, a.Sum, false)))
 else
 bd (
   if !st.2.2.2.2.2.2.1 then
   some (decide (a1.By ≤ y.By))
   else
   some false : Option Bool) fun w2 =>
 bd (
   if w2 then
   if (st.2.2.2.2.2.1.length + ([a1] : List R26Mark).length) * 48 ≤ 2 ^ 46 then
   some (st.2.2.2.2.2.1 ++ ([a1] : List R26Mark), true)
   else none
   else
   some (st.2.2.2.2.2.1, st.2.2.2.2.2.2.1) : Option ((List R26Mark) × Bool)) fun w3 =>
 bd (
   if !decide (y.By = a1.By) then
   if (w3.1.length + ([y] : List R26Mark).length) * 48 ≤ 2 ^ 46 then
   some (w3.1 ++ ([y] : List R26Mark))
   else none
   else
   some w3.1 : Option (List R26Mark)) fun w4 =>
 some (.inl (st.1, st.2.1, st.2.2.1, st.2.2.2.1, st.2.2.2.2.1, w4, w3.2, IntKind.wrap .i64 (st.2.2.2.2.2.2.2 + 1)))
 else
 some (.inr (.inl (st.1, st.2.1, st.2.2.1, st.2.2.2.1, st.2.2.2.2.1, st.2.2.2.2.2.1, st.2.2.2.2.2.2.1)))
noncomputable def tR26Hear (a : R26Marks) (a1 : R26Mark) : Option (R26Marks × Bool) :=
 bd (tR26May a.S a1) fun rA =>
 if !rA then
 some (a, false)
 else
 bd (Loop (tR26HearL1 a a1) (0, 0, ([] : List R26Mark), 0, Hash.zero, ([] : List R26Mark), false, 0)) fun w =>
 match w with
 | .inl p3 =>
   bd (
     if !p3.2.2.2.2.2.2 then
     if (p3.2.2.2.2.2.1.length + ([a1] : List R26Mark).length) * 48 ≤ 2 ^ 46 then
     some (p3.2.2.2.2.2.1 ++ ([a1] : List R26Mark))
     else none
     else
     some p3.2.2.2.2.2.1 : Option (List R26Mark)) fun w5 =>
   bd (
     if a1.Slot ≤ a.Stable then
     some true
     else
     bd (tR26Count (⟨a.S, w5, a.Stable, a.Sum⟩ : R26Marks) a1.Slot a1.Sum) fun rA1 =>
     bd (tR07Proof a.S) fun rA2 =>
     some (decide (rA1 < rA2)) : Option Bool) fun w6 =>
   if w6 then
   some ((⟨a.S, w5, a.Stable, a.Sum⟩ : R26Marks), false)
   else
   some ((⟨a.S, w5, a1.Slot, a1.Sum⟩ : R26Marks), true)
 | .inr p4 =>
   some ((⟨(⟨p4.1, p4.2.1⟩ : R07Size), p4.2.2.1, p4.2.2.2.1, p4.2.2.2.2.1⟩ : R26Marks), p4.2.2.2.2.2)
noncomputable def tR26SameL1 (a : R26Marks) (b : R26Marks) (st : Int) : Option (Int ⊕ (Unit ⊕ Bool)) :=
 if st < (a.L.length : Int) then
 ix a.L st fun y =>
 ix b.L st fun y1 =>
 if !((decide (y.By = y1.By)) && ((decide (y.Slot = y1.Slot)) && (decide (y.Sum = y1.Sum)))) then
 some (.inr (.inr false))
 else
 some (.inl (IntKind.wrap .i64 (st + 1)))
 else
 some (.inr (.inl ()))
noncomputable def tR26Same (a : R26Marks) (b : R26Marks) : Option Bool :=
 bd (
   if !((decide (a.S.F = b.S.F)) && (decide (a.S.T = b.S.T))) then
   some true
   else
   if !decide (a.Stable = b.Stable) then
   some true
   else
   if !(decide (a.Sum = b.Sum)) then
   some true
   else
   some (!decide ((a.L.length : Int) = (b.L.length : Int))) : Option Bool) fun w =>
 if w then
 some false
 else
 bd (Loop (tR26SameL1 a b) 0) fun w1 =>
 match w1 with
 | .inl p1 =>
   some true
 | .inr p2 =>
   some p2
noncomputable def tR07Weak (sA : R07Size) : Option Int :=
 some (IntKind.wrap .i64 (sA.F + 1))
noncomputable def tR26Trusted (m : R26Marks) (slot : Int) (sum : Hash) : Option Bool :=
 bd (tR26Count m slot sum) fun rA =>
 bd (tR07Weak m.S) fun rA1 =>
 some (decide (rA1 ≤ rA))
noncomputable def tR26BehindL1 (m : R26Marks) (slot : Int) (st : Int × Int) : Option ((Int × Int) ⊕ Int) :=
 if st.2 < (m.L.length : Int) then
 ix m.L st.2 fun y =>
 bd (
   if slot ≤ y.Slot then
   some (IntKind.wrap .i64 (st.1 + 1))
   else
   some st.1 : Option Int) fun w1 =>
 some (.inl (w1, IntKind.wrap .i64 (st.2 + 1)))
 else
 some (.inr st.1)
noncomputable def tR26Behind (m : R26Marks) (slot : Int) : Option Int :=
 bd (Loop (tR26BehindL1 m slot) (0, 0)) fun w =>
 some w
noncomputable def tL26MarkTurns (a : MarkMarks) (a1 : MarkMark) (a2 : Int) : Option Bool :=
 bd (
   if (60 : Int) < (a.L.length : Int) then
   some true
   else
   bd (tL26Plain a) fun rA =>
   bd (tR26Right rA) fun rA1 =>
   some (!rA1) : Option Bool) fun w =>
 if w then
 bd (tL26Alive) fun rA2 =>
 some rA2
 else
 bd (tL26Plain a) fun rA3 =>
 bd (tMarkHear a a1) fun rA4 =>
 bd (tL26One a1) fun rA5 =>
 bd (tR26Hear rA3 rA5) fun rA6 =>
 bd (
   bd (tL26Plain rA4.1) fun rA7 =>
   bd (tR26Same rA7 rA6.1) fun rA8 =>
   if rA8 then
   if rA4.2 = rA6.2 then
   bd (tMarkTrusted a a1.Slot a1.Sum) fun rA9 =>
   bd (tR26Trusted rA3 a1.Slot a1.Sum) fun rA10 =>
   some (decide (rA9 = rA10))
   else
   some false
   else
   some false : Option Bool) fun w1 =>
 bd (
   bd (tL26Alive) fun rA11 =>
   if rA11 then
   if w1 then
   bd (tMarkBehind a a2) fun rA12 =>
   bd (tR26Behind rA3 a2) fun rA13 =>
   if rA12 = rA13 then
   bd (tL26Plain a) fun rA14 =>
   bd (tR26Same rA14 rA3) fun rA15 =>
   some rA15
   else
   some false
   else
   some false
   else
   some false : Option Bool) fun w2 =>
 some w2
noncomputable def tL26Truth (slot : Int) : Option Hash :=
 if (0 : Int) ≤ 0 ∧ (0 : Int) < 32 then
 if isByte (IntKind.wrap .u8 slot) then
 if !decide ((256 : Int) = 0) then
 if (0 : Int) ≤ 1 ∧ (1 : Int) < 32 then
 if isByte (IntKind.wrap .u8 (IntKind.wrap .i64 (Int.tdiv slot 256))) then
 if (0 : Int) ≤ 31 ∧ (31 : Int) < 32 then
 if isByte 1 then
 some (((Hash.zero.put (Int.toNat 0) (UInt8.ofNat (Int.toNat (IntKind.wrap .u8 slot)))).put (Int.toNat 1) (UInt8.ofNat (Int.toNat (IntKind.wrap .u8 (IntKind.wrap .i64 (Int.tdiv slot 256)))))).put (Int.toNat 31) (UInt8.ofNat (Int.toNat 1)))
 else none
 else none
 else none
 else none
 else none
 else none
 else none
noncomputable def tL26MarkStableL1 (a1 : List Bool) (st : Int × Int) : Option ((Int × Int) ⊕ Int) :=
 if st.2 < (a1.length : Int) then
 ix a1 st.2 fun y =>
 bd (
   if y then
   some (IntKind.wrap .i64 (st.1 + 1))
   else
   some st.1 : Option Int) fun w2 =>
 some (.inl (w2, IntKind.wrap .i64 (st.2 + 1)))
 else
 some (.inr st.1)
noncomputable def tL26MarkStableL2 (a1 : List Bool) (a2 : List MarkMark) (st1 : Int × Int × (List MarkMark) × Int × Hash × Int) : Option ((Int × Int × (List MarkMark) × Int × Hash × Int) ⊕ (Unit ⊕ Bool)) :=
 if st1.2.2.2.2.2 < (a2.length : Int) then
 ix a2 st1.2.2.2.2.2 fun y1 =>
 bd (
   if y1.By < 0 then
   some true
   else
   if (a1.length : Int) ≤ y1.By then
   some true
   else
   ix a1 y1.By fun y2 =>
   some (!y2) : Option Bool) fun w4 =>
 bd (
   if w4 then
   bd (tL26Truth y1.Slot) fun rA4 =>
   some (y1.By, y1.Slot, rA4)
   else
   some (y1.By, y1.Slot, y1.Sum) : Option (Int × Int × Hash)) fun w5 =>
 bd (tMarkHear (⟨(⟨st1.1, st1.2.1⟩ : SizeSize), st1.2.2.1, st1.2.2.2.1, st1.2.2.2.2.1⟩ : MarkMarks) (⟨w5.1, w5.2.1, w5.2.2⟩ : MarkMark)) fun rA5 =>
 bd (
   if rA5.1.Stable < st1.2.2.2.1 then
   some true
   else
   if !(decide (rA5.2 = (decide (st1.2.2.2.1 < rA5.1.Stable)))) then
   some true
   else
   bd (tL26Plain rA5.1) fun rA6 =>
   bd (tR26Right rA6) fun rA7 =>
   some (!rA7) : Option Bool) fun w6 =>
 if w6 then
 some (.inr (.inr false))
 else
 bd (
   if (0 : Int) < rA5.1.Stable then
   bd (tL26Truth rA5.1.Stable) fun rA8 =>
   if !(decide (rA5.1.Sum = rA8)) then
   some true
   else
   bd (tMarkTrusted rA5.1 w5.2.1 w5.2.2) fun rA9 =>
   if rA9 then
   bd (tL26Truth w5.2.1) fun rA10 =>
   some (!(decide (w5.2.2 = rA10)))
   else
   some false
   else
   bd (tMarkTrusted rA5.1 w5.2.1 w5.2.2) fun rA11 =>
   if rA11 then
   bd (tL26Truth w5.2.1) fun rA12 =>
   some (!(decide (w5.2.2 = rA12)))
   else
   some false : Option Bool) fun w7 =>
 if w7 then
 some (.inr (.inr false))
 else
 some (.inl (rA5.1.S.F, rA5.1.S.T, rA5.1.L, rA5.1.Stable, rA5.1.Sum, IntKind.wrap .i64 (st1.2.2.2.2.2 + 1)))
 else
 some (.inr (.inl ()))
noncomputable def tL26MarkStable (a : SizeSize) (a1 : List Bool) (a2 : List MarkMark) : Option Bool :=
 bd (tMarkNew a) fun rA =>
 bd (
   if !decide (rA.2 = 0) then
   some true
   else
   bd (tSizeN a) fun rA1 =>
   if !decide ((a1.length : Int) = rA1) then
   some true
   else
   some (decide ((100 : Int) < (a2.length : Int))) : Option Bool) fun w =>
 if w then
 bd (tL26Alive) fun rA2 =>
 some rA2
 else
 bd (Loop (tL26MarkStableL1 a1) (0, 0)) fun w1 =>
 if a.F < w1 then
 bd (tL26Alive) fun rA3 =>
 some rA3
 else
 bd (Loop (tL26MarkStableL2 a1 a2) (rA.1.S.F, rA.1.S.T, rA.1.L, rA.1.Stable, rA.1.Sum, 0)) fun w3 =>
 match w3 with
 | .inl p4 =>
   bd (tL26Alive) fun rA13 =>
   some rA13
 | .inr p5 =>
   some p5
noncomputable def tSlicesEqualMarkMarkL1 (s1 : List MarkMark) (s2 : List MarkMark) (st : Int) : Option (Int ⊕ (Unit ⊕ Bool)) :=
 if st < (s1.length : Int) then
 ix s1 st fun y =>
 ix s2 st fun y1 =>
 if !((decide (y.By = y1.By)) && ((decide (y.Slot = y1.Slot)) && (decide (y.Sum = y1.Sum)))) then
 some (.inr (.inr false))
 else
 some (.inl (IntKind.wrap .i64 (st + 1)))
 else
 some (.inr (.inl ()))
noncomputable def tSlicesEqualMarkMark (s1 : List MarkMark) (s2 : List MarkMark) : Option Bool :=
 if !decide ((s1.length : Int) = (s2.length : Int)) then
 some false
 else
 bd (Loop (tSlicesEqualMarkMarkL1 s1 s2) 0) fun w =>
 match w with
 | .inl p1 =>
   some true
 | .inr p2 =>
   some p2
noncomputable def tMarkSame (a : MarkMarks) (b : MarkMarks) : Option Bool :=
 bd (
   if ((decide (a.S.F = b.S.F)) && (decide (a.S.T = b.S.T))) then
   if a.Stable = b.Stable then
   if a.Sum = b.Sum then
   bd (tSlicesEqualMarkMark a.L b.L) fun rA =>
   some rA
   else
   some false
   else
   some false
   else
   some false : Option Bool) fun w =>
 some w
noncomputable def tL26MarkNewestL1 (a1 : MarkMark) (rA3 : MarkMarks × Bool) (st : Bool × Int) : Option ((Bool × Int) ⊕ Bool) :=
 if st.2 < (rA3.1.L.length : Int) then
 bd (
   if st.1 then
   some true
   else
   ix rA3.1.L st.2 fun y =>
   some ((decide (y.By = a1.By)) && ((decide (y.Slot = a1.Slot)) && (decide (y.Sum = a1.Sum)))) : Option Bool) fun w2 =>
 some (.inl (w2, IntKind.wrap .i64 (st.2 + 1)))
 else
 some (.inr st.1)
noncomputable def tL26MarkNewest (a : MarkMarks) (a1 : MarkMark) (a2 : Int) : Option Bool :=
 bd (
   if (60 : Int) < (a.L.length : Int) then
   some true
   else
   bd (tL26Plain a) fun rA =>
   bd (tR26Right rA) fun rA1 =>
   some (!rA1) : Option Bool) fun w =>
 if w then
 bd (tL26Alive) fun rA2 =>
 some rA2
 else
 bd (tMarkHear a a1) fun rA3 =>
 if isByte 9 then
 bd (tMarkHear rA3.1 (⟨a1.By, IntKind.wrap .i64 (a1.Slot - (IntKind.wrap .i64 a2)), Hash.zero.put 0 (UInt8.ofNat (Int.toNat 9))⟩ : MarkMark)) fun rA4 =>
 bd (tMarkSame rA3.1 a) fun rA5 =>
 if rA5 then
 bd (tL26Alive) fun rA6 =>
 some rA6
 else
 bd (Loop (tL26MarkNewestL1 a1 rA3) (false, 0)) fun w1 =>
 bd (
   bd (tL26Alive) fun rA7 =>
   if rA7 then
   if w1 then
   if !rA4.2 then
   bd (tMarkSame rA3.1 rA4.1) fun rA8 =>
   if rA8 then
   bd (tMarkBehind rA3.1 a1.Slot) fun rA9 =>
   some (decide ((1 : Int) ≤ rA9))
   else
   some false
   else
   some false
   else
   some false
   else
   some false : Option Bool) fun w3 =>
 some w3
 else none
noncomputable def tR26New (sA : R07Size) : Option (R26Marks × Int) :=
 bd (tR07Right sA) fun rA =>
 if !rA then
 some ((⟨(⟨0, 0⟩ : R07Size), ([] : List R26Mark), 0, Hash.zero⟩ : R26Marks), 1)
 else
 some ((⟨sA, ([] : List R26Mark), 0, Hash.zero⟩ : R26Marks), 0)
noncomputable def tMarkRightL1 (m : MarkMarks) (st : Int) : Option (Int ⊕ (Unit ⊕ Bool)) :=
 if st < (m.L.length : Int) then
 ix m.L st fun y =>
 bd (
   bd (tMarkMarksMay m y) fun rA1 =>
   if !rA1 then
   some true
   else
   if (0 : Int) < st then
   ix m.L (IntKind.wrap .i64 (st - 1)) fun y1 =>
   some (decide (y.By ≤ y1.By))
   else
   some false : Option Bool) fun w2 =>
 if w2 then
 some (.inr (.inr false))
 else
 some (.inl (IntKind.wrap .i64 (st + 1)))
 else
 some (.inr (.inl ()))
noncomputable def tMarkRight (m : MarkMarks) : Option Bool :=
 bd (
   bd (tSizeRight m.S) fun rA =>
   if !rA then
   some true
   else
   if m.Stable < 0 then
   some true
   else
   if (100000 : Int) < m.Stable then
   some true
   else
   if m.Stable = 0 then
   some (!(decide (m.Sum = Hash.zero)))
   else
   some false : Option Bool) fun w =>
 if w then
 some false
 else
 bd (Loop (tMarkRightL1 m) 0) fun w1 =>
 match w1 with
 | .inl p1 =>
   some true
 | .inr p2 =>
   some p2
noncomputable def tL26MarkMay (a : MarkMarks) (b : MarkMarks) (sA : SizeSize) : Option Bool :=
 bd (
   if (60 : Int) < (a.L.length : Int) then
   some true
   else
   some (decide ((60 : Int) < (b.L.length : Int))) : Option Bool) fun w =>
 if w then
 bd (tL26Alive) fun rA =>
 some rA
 else
 bd (tMarkNew sA) fun rA1 =>
 bd (tL26Sized sA) fun rA2 =>
 bd (tR26New rA2) fun rA3 =>
 bd (
   bd (tL26Alive) fun rA4 =>
   if rA4 then
   bd (tL26Plain rA1.1) fun rA5 =>
   bd (tR26Same rA5 rA3.1) fun rA6 =>
   if rA6 then
   if rA1.2 = rA3.2 then
   bd (tMarkRight a) fun rA7 =>
   bd (tL26Plain a) fun rA8 =>
   bd (tR26Right rA8) fun rA9 =>
   if rA7 = rA9 then
   bd (tMarkSame a b) fun rA10 =>
   bd (tL26Plain a) fun rA11 =>
   bd (tL26Plain b) fun rA12 =>
   bd (tR26Same rA11 rA12) fun rA13 =>
   some (decide (rA10 = rA13))
   else
   some false
   else
   some false
   else
   some false
   else
   some false : Option Bool) fun w1 =>
 some w1
end Dn.S
