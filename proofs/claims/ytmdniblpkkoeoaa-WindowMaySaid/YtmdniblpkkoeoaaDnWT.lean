import Derived.Test.YtmdniblpkkoeoaaDnC
/-
  The functions, on typed values. Conditions: none.
-/
open Go Dn
set_option linter.unusedVariables false
set_option linter.unusedSimpArgs false
set_option maxRecDepth 100000
namespace Dn.S
structure WindowEntry where
  Slot : Int
  Value : List UInt8
deriving DecidableEq
@[reducible] def lvWindowEntry (x : WindowEntry) : List MV := [.i .i64 x.Slot, .s x.Value]
@[reducible] def encWindowEntry (x : WindowEntry) : MV := .agg (lvWindowEntry x)
structure WindowWindow where
  Size : Int
  Next : Int
  L : List WindowEntry
deriving DecidableEq
@[reducible] def lvWindowWindow (x : WindowWindow) : List MV := [.i .i64 x.Size, .i .i64 x.Next, .list (x.L.map encWindowEntry)]
@[reducible] def encWindowWindow (x : WindowWindow) : MV := .agg (lvWindowWindow x)
structure R25Entry where
  Slot : Int
  Value : List UInt8
deriving DecidableEq
@[reducible] def lvR25Entry (x : R25Entry) : List MV := [.i .i64 x.Slot, .s x.Value]
@[reducible] def encR25Entry (x : R25Entry) : MV := .agg (lvR25Entry x)
structure R25Window where
  Size : Int
  Next : Int
  L : List R25Entry
deriving DecidableEq
@[reducible] def lvR25Window (x : R25Window) : List MV := [.i .i64 x.Size, .i .i64 x.Next, .list (x.L.map encR25Entry)]
@[reducible] def encR25Window (x : R25Window) : MV := .agg (lvR25Window x)
structure L25Word where
  Slot : Int
  Value : List UInt8
  Take : Bool
deriving DecidableEq
@[reducible] def lvL25Word (x : L25Word) : List MV := [.i .i64 x.Slot, .s x.Value, .b x.Take]
@[reducible] def encL25Word (x : L25Word) : MV := .agg (lvL25Word x)
noncomputable def tWindowNew (size : Int) : Option (WindowWindow × Int) :=
 bd (
   if size < 1 then
   some true
   else
   some (decide ((16 : Int) < size)) : Option Bool) fun w =>
 if w then
 some ((⟨0, 0, ([] : List WindowEntry)⟩ : WindowWindow), 1)
 else
 some ((⟨size, 0, ([] : List WindowEntry)⟩ : WindowWindow), 0)
noncomputable def tCmpIsNaNInt (x : Int) : Option Bool :=
 some (!decide (x = x))
noncomputable def tCmpCompareInt (x : Int) (y : Int) : Option Int :=
 bd (tCmpIsNaNInt x) fun rA =>
 bd (tCmpIsNaNInt y) fun rA1 =>
 if rA then
 if rA1 then
 some 0
 else
 some (-1)
 else
 if rA1 then
 some 1
 else
 if x < y then
 some (-1)
 else
 if y < x then
 some 1
 else
 some 0
noncomputable def tWindowWindowPlaceF1 (x : WindowEntry) (slot : Int) : Option Int :=
 bd (tCmpCompareInt x.Slot slot) fun rA =>
 some rA
noncomputable def tSlicesBinarySearchFuncWindowEntryIntL1 (x : List WindowEntry) (target : Int) (cmp : WindowEntry → Int → Option Int) (st : Int × Int) : Option ((Int × Int) ⊕ Int) :=
 if st.1 < st.2 then
 if (0 : Int) ≤ 1 then
 ix x (IntKind.wrap .i64 (Int.fdiv (IntKind.wrap .u64 (IntKind.wrap .i64 (st.1 + st.2))) (2 ^ min (Int.toNat 1) (IntKind.bits .u64)))) fun y =>
 bd (cmp y target) fun rA =>
 bd (
   if rA < 0 then
   some (IntKind.wrap .i64 ((IntKind.wrap .i64 (Int.fdiv (IntKind.wrap .u64 (IntKind.wrap .i64 (st.1 + st.2))) (2 ^ min (Int.toNat 1) (IntKind.bits .u64)))) + 1), st.2)
   else
   some (st.1, IntKind.wrap .i64 (Int.fdiv (IntKind.wrap .u64 (IntKind.wrap .i64 (st.1 + st.2))) (2 ^ min (Int.toNat 1) (IntKind.bits .u64)))) : Option (Int × Int)) fun w1 =>
 some (.inl (w1.1, w1.2))
 else none
 else
 some (.inr st.1)
noncomputable def tSlicesBinarySearchFuncWindowEntryInt (x : List WindowEntry) (target : Int) (cmp : WindowEntry → Int → Option Int) : Option (Int × Bool) :=
 bd (Loop (tSlicesBinarySearchFuncWindowEntryIntL1 x target cmp) (0, (x.length : Int))) fun w =>
 bd (
   if w < (x.length : Int) then
   ix x w fun y1 =>
   bd (cmp y1 target) fun rA1 =>
   some (w, decide (rA1 = 0))
   else
   some (w, false) : Option (Int × Bool)) fun w2 =>
 some (w2.1, w2.2)
noncomputable def tWindowWindowPlace (w : WindowWindow) (slot : Int) : Option (Int × Bool) :=
 bd (tSlicesBinarySearchFuncWindowEntryInt w.L slot tWindowWindowPlaceF1) fun rA =>
 some (rA.1, rA.2)
noncomputable def tWindowWindowEnd (w : WindowWindow) : Option Int :=
 some (imin (IntKind.wrap .i64 (w.Next + w.Size)) 100000)
noncomputable def tWindowLearn (w : WindowWindow) (slot : Int) (value : List UInt8) : Option (WindowWindow × Int) :=
 bd (tWindowWindowPlace w slot) fun rA =>
 if slot < w.Next then
 some (w, 15)
 else
 bd (tWindowWindowEnd w) fun rA1 =>
 if rA1 ≤ slot then
 some (w, 9)
 else
 if (6000 : Int) < (value.length : Int) then
 some (w, 5)
 else
 bd (
   if rA.2 then
   ix w.L rA.1 fun y =>
   some (decide (y.Value = value))
   else
   some false : Option Bool) fun w1 =>
 if w1 then
 some (w, 0)
 else
 if rA.2 then
 some (w, 7)
 else
 bd (tClone 24 w.L) fun rA2 =>
 bd (tInsert 24 rA2 rA.1 ([(⟨slot, value⟩ : WindowEntry)] : List WindowEntry)) fun rA3 =>
 some ((⟨w.Size, w.Next, rA3⟩ : WindowWindow), 0)
noncomputable def tWindowTakeL1 (w : WindowWindow) (st : Int × Int × (List WindowEntry) × (List (List UInt8)) × Int) : Option ((Int × Int × (List WindowEntry) × (List (List UInt8)) × Int) ⊕ (Int × Int × (List WindowEntry) × (List (List UInt8)))) :=
 if st.2.2.2.2 < (w.L.length : Int) then
 ix w.L st.2.2.2.2 fun y =>
 if !decide (y.Slot = st.2.1) then
 some (.inr (st.1, st.2.1, st.2.2.1, st.2.2.2.1))
 else
 if (st.2.2.2.1.length + ([y.Value] : List (List UInt8)).length) * 16 ≤ 2 ^ 46 then
 some (.inl (st.1, IntKind.wrap .i64 (st.2.1 + 1), st.2.2.1, st.2.2.2.1 ++ ([y.Value] : List (List UInt8)), IntKind.wrap .i64 (st.2.2.2.2 + 1)))
 else none
 else
 some (.inr (st.1, st.2.1, st.2.2.1, st.2.2.2.1))
noncomputable def tWindowTake (w : WindowWindow) : Option (WindowWindow × (List (List UInt8))) :=
 bd (Loop (tWindowTakeL1 w) (w.Size, w.Next, w.L, ([] : List (List UInt8)), 0)) fun w1 =>
 if (0 : Int) ≤ (w1.2.2.2.length : Int) ∧ (w1.2.2.2.length : Int) ≤ (w1.2.2.1.length : Int) ∧ (w1.2.2.1.length : Int) ≤ (w1.2.2.1.length : Int) then
 bd (tClone 24 (List.drop (Int.toNat (w1.2.2.2.length : Int)) (List.take (Int.toNat (w1.2.2.1.length : Int)) w1.2.2.1))) fun rA =>
 some ((⟨w1.1, w1.2.1, rA⟩ : WindowWindow), w1.2.2.2)
 else none
noncomputable def tL25Alive : Option Bool :=
 bd (tWindowNew 2) fun rA =>
 bd (tWindowLearn rA.1 1 ([98] : List UInt8)) fun rA1 =>
 bd (tWindowLearn rA1.1 0 ([97] : List UInt8)) fun rA2 =>
 bd (tWindowLearn rA2.1 2 ([99] : List UInt8)) fun rA3 =>
 bd (tWindowTake rA2.1) fun rA4 =>
 bd (
   if rA.2 = 0 then
   if rA1.2 = 0 then
   if rA2.2 = 0 then
   if rA3.2 = 9 then
   if (rA4.2.length : Int) = 2 then
   ix rA4.2 0 fun y =>
   if y = ([97] : List UInt8) then
   some (decide (rA4.1.Next = 2))
   else
   some false
   else
   some false
   else
   some false
   else
   some false
   else
   some false
   else
   some false : Option Bool) fun w =>
 some w
noncomputable def tR25RightL1 (a : R25Window) (st : Int) : Option (Int ⊕ (Unit ⊕ Bool)) :=
 if st < (a.L.length : Int) then
 ix a.L st fun y =>
 bd (
   if y.Slot < a.Next then
   some true
   else
   if (IntKind.wrap .i64 (a.Next + a.Size)) ≤ y.Slot then
   some true
   else
   if (100000 : Int) ≤ y.Slot then
   some true
   else
   if (6000 : Int) < (y.Value.length : Int) then
   some true
   else
   if (0 : Int) < st then
   ix a.L (IntKind.wrap .i64 (st - 1)) fun y1 =>
   some (decide (y.Slot ≤ y1.Slot))
   else
   some false : Option Bool) fun w2 =>
 if w2 then
 some (.inr (.inr false))
 else
 some (.inl (IntKind.wrap .i64 (st + 1)))
 else
 some (.inr (.inl ()))
noncomputable def tR25Right (a : R25Window) : Option Bool :=
 bd (
   if a.Size < 1 then
   some true
   else
   if (16 : Int) < a.Size then
   some true
   else
   if a.Next < 0 then
   some true
   else
   some (decide ((100000 : Int) < a.Next)) : Option Bool) fun w =>
 if w then
 some false
 else
 bd (Loop (tR25RightL1 a) 0) fun w1 =>
 match w1 with
 | .inl p1 =>
   some true
 | .inr p2 =>
   some p2
noncomputable def tL25PlainL1 (w : WindowWindow) (st : Int × Int × (List R25Entry) × Int) : Option ((Int × Int × (List R25Entry) × Int) ⊕ (Int × Int × (List R25Entry))) :=
 if st.2.2.2 < (w.L.length : Int) then
 ix w.L st.2.2.2 fun y =>
 ix w.L st.2.2.2 fun y1 =>
 if (st.2.2.1.length + ([(⟨y.Slot, y1.Value⟩ : R25Entry)] : List R25Entry).length) * 24 ≤ 2 ^ 46 then
 some (.inl (st.1, st.2.1, st.2.2.1 ++ ([(⟨y.Slot, y1.Value⟩ : R25Entry)] : List R25Entry), IntKind.wrap .i64 (st.2.2.2 + 1)))
 else none
 else
 some (.inr (st.1, st.2.1, st.2.2.1))
noncomputable def tL25Plain (w : WindowWindow) : Option R25Window :=
 bd (Loop (tL25PlainL1 w) (w.Size, w.Next, ([] : List R25Entry), 0)) fun w1 =>
 some (⟨w1.1, w1.2.1, w1.2.2⟩ : R25Window)
noncomputable def tL25WindowOrdersL1 (st : Int × Int × (List WindowEntry) × (List WindowEntry) × (List (List UInt8)) × Int) (y : L25Word) (st1 : Bool × Int) : Option ((Bool × Int) ⊕ Bool) :=
 if st1.2 < (st.2.2.2.1.length : Int) then
 bd (
   if st1.1 then
   some true
   else
   ix st.2.2.2.1 st1.2 fun y1 =>
   some (decide (y1.Slot = y.Slot)) : Option Bool) fun w3 =>
 some (.inl (w3, IntKind.wrap .i64 (st1.2 + 1)))
 else
 some (.inr st1.1)
noncomputable def tL25WindowOrdersL2 (a : Int) (a1 : List L25Word) (st : Int × Int × (List WindowEntry) × (List WindowEntry) × (List (List UInt8)) × Int) : Option ((Int × Int × (List WindowEntry) × (List WindowEntry) × (List (List UInt8)) × Int) ⊕ (((List WindowEntry) × (List (List UInt8))) ⊕ Bool)) :=
 if st.2.2.2.2.2 < (a1.length : Int) then
 ix a1 st.2.2.2.2.2 fun y =>
 if (6100 : Int) < (y.Value.length : Int) then
 bd (tL25Alive) fun rA2 =>
 some (.inr (.inr rA2))
 else
 bd (Loop (tL25WindowOrdersL1 st y) (false, 0)) fun w2 =>
 bd (tWindowLearn (⟨st.1, st.2.1, st.2.2.1⟩ : WindowWindow) y.Slot y.Value) fun rA3 =>
 bd (
   if rA3.2 = 0 then
   some (!w2)
   else
   some false : Option Bool) fun w4 =>
 bd (
   if w4 then
   if (st.2.2.2.1.length + ([(⟨y.Slot, y.Value⟩ : WindowEntry)] : List WindowEntry).length) * 24 ≤ 2 ^ 46 then
   some (st.2.2.2.1 ++ ([(⟨y.Slot, y.Value⟩ : WindowEntry)] : List WindowEntry))
   else none
   else
   some st.2.2.2.1 : Option (List WindowEntry)) fun w5 =>
 bd (
   if y.Take then
   bd (tWindowTake rA3.1) fun rA4 =>
   if (st.2.2.2.2.1.length + rA4.2.length) * 16 ≤ 2 ^ 46 then
   some (rA4.1.Size, rA4.1.Next, rA4.1.L, st.2.2.2.2.1 ++ rA4.2)
   else none
   else
   some (rA3.1.Size, rA3.1.Next, rA3.1.L, st.2.2.2.2.1) : Option (Int × Int × (List WindowEntry) × (List (List UInt8)))) fun w6 =>
 bd (
   bd (tL25Plain (⟨w6.1, w6.2.1, w6.2.2.1⟩ : WindowWindow)) fun rA5 =>
   bd (tR25Right rA5) fun rA6 =>
   if !rA6 then
   some true
   else
   if !decide (w6.2.1 = (w6.2.2.2.length : Int)) then
   some true
   else
   if a < (w6.2.2.1.length : Int) then
   some true
   else
   some (!decide ((IntKind.wrap .i64 ((w6.2.2.1.length : Int) + (w6.2.2.2.length : Int))) = (w5.length : Int))) : Option Bool) fun w7 =>
 if w7 then
 some (.inr (.inr false))
 else
 some (.inl (w6.1, w6.2.1, w6.2.2.1, w5, w6.2.2.2, IntKind.wrap .i64 (st.2.2.2.2.2 + 1)))
 else
 some (.inr (.inl (st.2.2.2.1, st.2.2.2.2.1)))
noncomputable def tL25WindowOrdersL3 (p4 : (List WindowEntry) × (List (List UInt8))) (st2 : Int) (st3 : Bool × Int) : Option ((Bool × Int) ⊕ Bool) :=
 if st3.2 < (p4.1.length : Int) then
 bd (
   if st3.1 then
   some true
   else
   ix p4.1 st3.2 fun y2 =>
   if y2.Slot = st2 then
   ix p4.1 st3.2 fun y3 =>
   ix p4.2 st2 fun y4 =>
   some (decide (y3.Value = y4))
   else
   some false : Option Bool) fun w10 =>
 some (.inl (w10, IntKind.wrap .i64 (st3.2 + 1)))
 else
 some (.inr st3.1)
noncomputable def tL25WindowOrdersL4 (p4 : (List WindowEntry) × (List (List UInt8))) (st2 : Int) : Option (Int ⊕ (Unit ⊕ Bool)) :=
 if st2 < (p4.2.length : Int) then
 bd (Loop (tL25WindowOrdersL3 p4 st2) (false, 0)) fun w9 =>
 if !w9 then
 some (.inr (.inr false))
 else
 some (.inl (IntKind.wrap .i64 (st2 + 1)))
 else
 some (.inr (.inl ()))
noncomputable def tL25WindowOrders (a : Int) (a1 : List L25Word) : Option Bool :=
 bd (tWindowNew a) fun rA =>
 bd (
   if !decide (rA.2 = 0) then
   some true
   else
   some (decide ((100 : Int) < (a1.length : Int))) : Option Bool) fun w =>
 if w then
 bd (tL25Alive) fun rA1 =>
 some rA1
 else
 bd (Loop (tL25WindowOrdersL2 a a1) (rA.1.Size, rA.1.Next, rA.1.L, ([] : List WindowEntry), ([] : List (List UInt8)), 0)) fun w1 =>
 match w1 with
 | .inl p4 =>
   bd (Loop (tL25WindowOrdersL4 p4) 0) fun w8 =>
   match w8 with
   | .inl p8 =>
     bd (tL25Alive) fun rA7 =>
     some rA7
   | .inr p9 =>
     some p9
 | .inr p5 =>
   some p5
noncomputable def tL25FewL1 (w : WindowWindow) (st : Int) : Option (Int ⊕ (Unit ⊕ Bool)) :=
 if st < (w.L.length : Int) then
 bd (
   if st = 40 then
   some true
   else
   ix w.L st fun y =>
   some (decide ((6100 : Int) < (y.Value.length : Int))) : Option Bool) fun w2 =>
 if w2 then
 some (.inr (.inr false))
 else
 some (.inl (IntKind.wrap .i64 (st + 1)))
 else
 some (.inr (.inl ()))
noncomputable def tL25Few (w : WindowWindow) : Option Bool :=
 bd (Loop (tL25FewL1 w) 0) fun w1 =>
 match w1 with
 | .inl p1 =>
   some true
 | .inr p2 =>
   some p2
noncomputable def tR25HasL1 (w : R25Window) (slot : Int) (st : Int) : Option (Int ⊕ (Unit ⊕ ((List UInt8) × Bool))) :=
 if st < (w.L.length : Int) then
 ix w.L st fun y =>
 if y.Slot = slot then
 ix w.L st fun y1 =>
 some (.inr (.inr (y1.Value, true)))
 else
 some (.inl (IntKind.wrap .i64 (st + 1)))
 else
 some (.inr (.inl ()))
noncomputable def tR25Has (w : R25Window) (slot : Int) : Option ((List UInt8) × Bool) :=
 bd (Loop (tR25HasL1 w slot) 0) fun w1 =>
 match w1 with
 | .inl p1 =>
   some (([] : List UInt8), false)
 | .inr p2 =>
   some (p2.1, p2.2)
noncomputable def tR25LearnL1 (a : R25Window) (a1 : Int) (a2 : List UInt8) (st : (List R25Entry) × Int) : Option (((List R25Entry) × Int) ⊕ (List R25Entry)) :=
 if st.2 < (IntKind.wrap .i64 (a.Next + a.Size)) then
 bd (tR25Has a st.2) fun rA1 =>
 bd (
   if rA1.2 then
   if (st.1.length + ([(⟨st.2, rA1.1⟩ : R25Entry)] : List R25Entry).length) * 24 ≤ 2 ^ 46 then
   some (st.1 ++ ([(⟨st.2, rA1.1⟩ : R25Entry)] : List R25Entry))
   else none
   else
   some st.1 : Option (List R25Entry)) fun w3 =>
 bd (
   if st.2 = a1 then
   if (w3.length + ([(⟨st.2, a2⟩ : R25Entry)] : List R25Entry).length) * 24 ≤ 2 ^ 46 then
   some (w3 ++ ([(⟨st.2, a2⟩ : R25Entry)] : List R25Entry))
   else none
   else
   some w3 : Option (List R25Entry)) fun w4 =>
 some (.inl (w4, IntKind.wrap .i64 (st.2 + 1)))
 else
 some (.inr st.1)
noncomputable def tR25Learn (a : R25Window) (a1 : Int) (a2 : List UInt8) : Option (R25Window × Int) :=
 if a1 < a.Next then
 some (a, 15)
 else
 bd (
   if (IntKind.wrap .i64 (a.Next + a.Size)) ≤ a1 then
   some true
   else
   some (decide ((100000 : Int) ≤ a1)) : Option Bool) fun w =>
 if w then
 some (a, 9)
 else
 if (6000 : Int) < (a2.length : Int) then
 some (a, 5)
 else
 bd (tR25Has a a1) fun rA =>
 bd (
   if rA.2 then
   some (decide (rA.1 = a2))
   else
   some false : Option Bool) fun w1 =>
 if w1 then
 some (a, 0)
 else
 if rA.2 then
 some (a, 7)
 else
 bd (Loop (tR25LearnL1 a a1 a2) (([] : List R25Entry), a.Next)) fun w2 =>
 some ((⟨a.Size, a.Next, w2⟩ : R25Window), 0)
noncomputable def tR25TakeL1 (w : R25Window) (st : (List (List UInt8)) × Int) : Option (((List (List UInt8)) × Int) ⊕ ((List (List UInt8)) × Int)) :=
 bd (tR25Has w st.2) fun rA =>
 if !rA.2 then
 some (.inr (st.1, st.2))
 else
 if (st.1.length + ([rA.1] : List (List UInt8)).length) * 16 ≤ 2 ^ 46 then
 some (.inl (st.1 ++ ([rA.1] : List (List UInt8)), IntKind.wrap .i64 (st.2 + 1)))
 else none
noncomputable def tR25TakeL2 (w : R25Window) (w1 : (List (List UInt8)) × Int) (st1 : (List R25Entry) × Int) : Option (((List R25Entry) × Int) ⊕ (List R25Entry)) :=
 if st1.2 < (w.L.length : Int) then
 ix w.L st1.2 fun y =>
 bd (
   if w1.2 ≤ y.Slot then
   ix w.L st1.2 fun y1 =>
   if (st1.1.length + ([y1] : List R25Entry).length) * 24 ≤ 2 ^ 46 then
   some (st1.1 ++ ([y1] : List R25Entry))
   else none
   else
   some st1.1 : Option (List R25Entry)) fun w3 =>
 some (.inl (w3, IntKind.wrap .i64 (st1.2 + 1)))
 else
 some (.inr st1.1)
noncomputable def tR25Take (w : R25Window) : Option (R25Window × (List (List UInt8))) :=
 bd (Loop (tR25TakeL1 w) (([] : List (List UInt8)), w.Next)) fun w1 =>
 bd (Loop (tR25TakeL2 w w1) (([] : List R25Entry), 0)) fun w2 =>
 some ((⟨w.Size, w1.2, w2⟩ : R25Window), w1.1)
noncomputable def tR25SameL1 (a : R25Window) (b : R25Window) (st : Int) : Option (Int ⊕ (Unit ⊕ Bool)) :=
 if st < (a.L.length : Int) then
 ix a.L st fun y =>
 ix b.L st fun y1 =>
 if !((decide (y.Slot = y1.Slot)) && (decide (y.Value = y1.Value))) then
 some (.inr (.inr false))
 else
 some (.inl (IntKind.wrap .i64 (st + 1)))
 else
 some (.inr (.inl ()))
noncomputable def tR25Same (a : R25Window) (b : R25Window) : Option Bool :=
 bd (
   if !decide (a.Size = b.Size) then
   some true
   else
   if !decide (a.Next = b.Next) then
   some true
   else
   some (!decide ((a.L.length : Int) = (b.L.length : Int))) : Option Bool) fun w =>
 if w then
 some false
 else
 bd (Loop (tR25SameL1 a b) 0) fun w1 =>
 match w1 with
 | .inl p1 =>
   some true
 | .inr p2 =>
   some p2
noncomputable def tR01StringsL1 (a : List (List UInt8)) (b : List (List UInt8)) (st : Int) : Option (Int ⊕ (Unit ⊕ Bool)) :=
 if st < (a.length : Int) then
 ix a st fun y =>
 ix b st fun y1 =>
 if !decide (y = y1) then
 some (.inr (.inr false))
 else
 some (.inl (IntKind.wrap .i64 (st + 1)))
 else
 some (.inr (.inl ()))
noncomputable def tR01Strings (a : List (List UInt8)) (b : List (List UInt8)) : Option Bool :=
 if !decide ((a.length : Int) = (b.length : Int)) then
 some false
 else
 bd (Loop (tR01StringsL1 a b) 0) fun w =>
 match w with
 | .inl p1 =>
   some true
 | .inr p2 =>
   some p2
noncomputable def tR01IntsL1 (a : List Int) (b : List Int) (st : Int) : Option (Int ⊕ (Unit ⊕ Bool)) :=
 if st < (a.length : Int) then
 ix a st fun y =>
 ix b st fun y1 =>
 if !decide (y = y1) then
 some (.inr (.inr false))
 else
 some (.inl (IntKind.wrap .i64 (st + 1)))
 else
 some (.inr (.inl ()))
noncomputable def tR01Ints (a : List Int) (b : List Int) : Option Bool :=
 if !decide ((a.length : Int) = (b.length : Int)) then
 some false
 else
 bd (Loop (tR01IntsL1 a b) 0) fun w =>
 match w with
 | .inl p1 =>
   some true
 | .inr p2 =>
   some p2
noncomputable def tWindowOpenL1 (w : WindowWindow) (st : (List Int) × Int) : Option (((List Int) × Int) ⊕ (List Int)) :=
 bd (tWindowWindowEnd w) fun rA =>
 if st.2 < rA then
 bd (tWindowWindowPlace w st.2) fun rA1 =>
 bd (
   if !rA1.2 then
   if (st.1.length + ([st.2] : List Int).length) * 8 ≤ 2 ^ 46 then
   some (st.1 ++ ([st.2] : List Int))
   else none
   else
   some st.1 : Option (List Int)) fun w2 =>
 some (.inl (w2, IntKind.wrap .i64 (st.2 + 1)))
 else
 some (.inr st.1)
noncomputable def tWindowOpen (w : WindowWindow) : Option (List Int) :=
 bd (Loop (tWindowOpenL1 w) (([] : List Int), w.Next)) fun w1 =>
 some w1
noncomputable def tR25OpenL1 (w : R25Window) (st : (List Int) × Int) : Option (((List Int) × Int) ⊕ (List Int)) :=
 bd (
   if st.2 < (IntKind.wrap .i64 (w.Next + w.Size)) then
   some (decide (st.2 < 100000))
   else
   some false : Option Bool) fun w2 =>
 if w2 then
 bd (tR25Has w st.2) fun rA =>
 bd (
   if !rA.2 then
   if (st.1.length + ([st.2] : List Int).length) * 8 ≤ 2 ^ 46 then
   some (st.1 ++ ([st.2] : List Int))
   else none
   else
   some st.1 : Option (List Int)) fun w3 =>
 some (.inl (w3, IntKind.wrap .i64 (st.2 + 1)))
 else
 some (.inr st.1)
noncomputable def tR25Open (w : R25Window) : Option (List Int) :=
 bd (Loop (tR25OpenL1 w) (([] : List Int), w.Next)) fun w1 =>
 some w1
noncomputable def tL25WindowTurns (a : WindowWindow) (a1 : Int) (a2 : List UInt8) : Option Bool :=
 bd (
   bd (tL25Few a) fun rA =>
   if !rA then
   some true
   else
   if (6100 : Int) < (a2.length : Int) then
   some true
   else
   bd (tL25Plain a) fun rA1 =>
   bd (tR25Right rA1) fun rA2 =>
   some (!rA2) : Option Bool) fun w =>
 if w then
 bd (tL25Alive) fun rA3 =>
 some rA3
 else
 bd (tL25Plain a) fun rA4 =>
 bd (tWindowLearn a a1 a2) fun rA5 =>
 bd (tR25Learn rA4 a1 a2) fun rA6 =>
 bd (tWindowTake a) fun rA7 =>
 bd (tR25Take rA4) fun rA8 =>
 bd (
   bd (tL25Plain rA5.1) fun rA9 =>
   bd (tR25Same rA9 rA6.1) fun rA10 =>
   if rA10 then
   if rA5.2 = rA6.2 then
   bd (tL25Plain rA7.1) fun rA11 =>
   bd (tR25Same rA11 rA8.1) fun rA12 =>
   if rA12 then
   bd (tR01Strings rA7.2 rA8.2) fun rA13 =>
   some rA13
   else
   some false
   else
   some false
   else
   some false : Option Bool) fun w1 =>
 bd (
   bd (tL25Alive) fun rA14 =>
   if rA14 then
   if w1 then
   bd (tWindowOpen a) fun rA15 =>
   bd (tR25Open rA4) fun rA16 =>
   bd (tR01Ints rA15 rA16) fun rA17 =>
   if rA17 then
   bd (tL25Plain a) fun rA18 =>
   bd (tR25Same rA18 rA4) fun rA19 =>
   some rA19
   else
   some false
   else
   some false
   else
   some false : Option Bool) fun w2 =>
 some w2
noncomputable def tL25WindowOpensL1 (a1 : Int) (rA4 : (List Int)) (st : Bool × Int) : Option ((Bool × Int) ⊕ (Bool ⊕ Bool)) :=
 if st.2 < (rA4.length : Int) then
 bd (
   if st.1 then
   some true
   else
   ix rA4 st.2 fun y =>
   some (decide (y = a1)) : Option Bool) fun w2 =>
 bd (
   if (0 : Int) < st.2 then
   ix rA4 (IntKind.wrap .i64 (st.2 - 1)) fun y1 =>
   ix rA4 st.2 fun y2 =>
   some (decide (y2 ≤ y1))
   else
   some false : Option Bool) fun w3 =>
 if w3 then
 some (.inr (.inr false))
 else
 some (.inl (w2, IntKind.wrap .i64 (st.2 + 1)))
 else
 some (.inr (.inl st.1))
noncomputable def tL25WindowOpens (a : WindowWindow) (a1 : Int) : Option Bool :=
 bd (
   bd (tL25Few a) fun rA =>
   if !rA then
   some true
   else
   bd (tL25Plain a) fun rA1 =>
   bd (tR25Right rA1) fun rA2 =>
   some (!rA2) : Option Bool) fun w =>
 if w then
 bd (tL25Alive) fun rA3 =>
 some rA3
 else
 bd (tWindowOpen a) fun rA4 =>
 bd (Loop (tL25WindowOpensL1 a1 rA4) (false, 0)) fun w1 =>
 match w1 with
 | .inl p1 =>
   bd (tWindowLearn a a1 ([118] : List UInt8)) fun rA5 =>
   bd (
     if rA5.2 = 0 then
     some (!(decide (p1 = (decide ((rA5.1.L.length : Int) = (IntKind.wrap .i64 ((a.L.length : Int) + 1)))))))
     else
     some (!(decide (p1 = false))) : Option Bool) fun w4 =>
   if w4 then
   some false
   else
   bd (
     bd (tL25Alive) fun rA6 =>
     if rA6 then
     some (decide ((rA4.length : Int) = (IntKind.wrap .i64 ((imin a.Size (IntKind.wrap .i64 (100000 - a.Next))) - (a.L.length : Int)))))
     else
     some false : Option Bool) fun w5 =>
   some w5
 | .inr p2 =>
   some p2
noncomputable def tR25New (size : Int) : Option (R25Window × Int) :=
 bd (
   if size < 1 then
   some true
   else
   some (decide ((16 : Int) < size)) : Option Bool) fun w =>
 if w then
 some ((⟨0, 0, ([] : List R25Entry)⟩ : R25Window), 1)
 else
 some ((⟨size, 0, ([] : List R25Entry)⟩ : R25Window), 0)
noncomputable def tWindowRightL1 (w : WindowWindow) (st : Int × Int) : Option ((Int × Int) ⊕ (Unit ⊕ Bool)) :=
 if st.2 < (w.L.length : Int) then
 ix w.L st.2 fun y =>
 bd (
   if y.Slot < st.1 then
   some true
   else
   bd (tWindowWindowEnd w) fun rA1 =>
   if rA1 ≤ y.Slot then
   some true
   else
   some (decide ((6000 : Int) < (y.Value.length : Int))) : Option Bool) fun w3 =>
 if w3 then
 some (.inr (.inr false))
 else
 some (.inl (IntKind.wrap .i64 (y.Slot + 1), IntKind.wrap .i64 (st.2 + 1)))
 else
 some (.inr (.inl ()))
noncomputable def tWindowRight (w : WindowWindow) : Option Bool :=
 bd (tWindowNew w.Size) fun rA =>
 bd (
   if !decide (rA.2 = 0) then
   some true
   else
   if w.Next < 0 then
   some true
   else
   some (decide ((100000 : Int) < w.Next)) : Option Bool) fun w1 =>
 if w1 then
 some false
 else
 bd (Loop (tWindowRightL1 w) (w.Next, 0)) fun w2 =>
 match w2 with
 | .inl p1 =>
   some true
 | .inr p2 =>
   some p2
noncomputable def tSlicesEqualWindowEntryL1 (s1 : List WindowEntry) (s2 : List WindowEntry) (st : Int) : Option (Int ⊕ (Unit ⊕ Bool)) :=
 if st < (s1.length : Int) then
 ix s1 st fun y =>
 ix s2 st fun y1 =>
 if !((decide (y.Slot = y1.Slot)) && (decide (y.Value = y1.Value))) then
 some (.inr (.inr false))
 else
 some (.inl (IntKind.wrap .i64 (st + 1)))
 else
 some (.inr (.inl ()))
noncomputable def tSlicesEqualWindowEntry (s1 : List WindowEntry) (s2 : List WindowEntry) : Option Bool :=
 if !decide ((s1.length : Int) = (s2.length : Int)) then
 some false
 else
 bd (Loop (tSlicesEqualWindowEntryL1 s1 s2) 0) fun w =>
 match w with
 | .inl p1 =>
   some true
 | .inr p2 =>
   some p2
noncomputable def tWindowSame (a : WindowWindow) (b : WindowWindow) : Option Bool :=
 bd (
   if a.Size = b.Size then
   if a.Next = b.Next then
   bd (tSlicesEqualWindowEntry a.L b.L) fun rA =>
   some rA
   else
   some false
   else
   some false : Option Bool) fun w =>
 some w
noncomputable def tL25WindowMay (a : WindowWindow) (b : WindowWindow) (size : Int) : Option Bool :=
 bd (
   bd (tL25Few a) fun rA =>
   if !rA then
   some true
   else
   bd (tL25Few b) fun rA1 =>
   some (!rA1) : Option Bool) fun w =>
 if w then
 bd (tL25Alive) fun rA2 =>
 some rA2
 else
 bd (tWindowNew size) fun rA3 =>
 bd (tR25New size) fun rA4 =>
 bd (
   bd (tL25Alive) fun rA5 =>
   if rA5 then
   bd (tWindowRight a) fun rA6 =>
   bd (tL25Plain a) fun rA7 =>
   bd (tR25Right rA7) fun rA8 =>
   if rA6 = rA8 then
   bd (tWindowSame a b) fun rA9 =>
   bd (tL25Plain a) fun rA10 =>
   bd (tL25Plain b) fun rA11 =>
   bd (tR25Same rA10 rA11) fun rA12 =>
   if rA9 = rA12 then
   bd (tL25Plain rA3.1) fun rA13 =>
   bd (tR25Same rA13 rA4.1) fun rA14 =>
   if rA14 then
   some (decide (rA3.2 = rA4.2))
   else
   some false
   else
   some false
   else
   some false
   else
   some false : Option Bool) fun w1 =>
 some w1
end Dn.S
