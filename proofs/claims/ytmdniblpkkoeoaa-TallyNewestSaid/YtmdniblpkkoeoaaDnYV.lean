import Derived.Test.YtmdniblpkkoeoaaDnYT
import Derived.Test.YtmdniblpkkoeoaaDnD
/-
  The functions, with a bound on their rounds. Conditions: none.
-/
open Go Dn
set_option linter.unusedVariables false
set_option linter.unusedSimpArgs false
set_option maxRecDepth 100000
namespace Dn.S
def cTallyMay (n : Nat) (a : ApiAccept) : Option Bool :=
 bd (
   if (0 : Int) ≤ a.By then
   if (0 : Int) ≤ a.View then
   if a.View ≤ 100000 then
   some (decide ((a.Value.length : Int) ≤ 6000))
   else
   some false
   else
   some false
   else
   some false : Option Bool) fun w =>
 some w
theorem leTallyMay (n : Nat) (a : ApiAccept) : Le (cTallyMay n a) (tTallyMay a) := by
  unfold cTallyMay tTallyMay
  repeat' (first | exact Le.rfl' _ | refine Le.bd ?_ fun _ => ?_ | refine Le.ite ?_ ?_ | refine Le.ix fun _ => ?_ | refine Le.loop fun _ => ?_ | refine Le.sum (fun _ => ?_) (fun _ => ?_) | intro _)
def cCmpIsNaNInt (n : Nat) (x : Int) : Option Bool :=
 some (!decide (x = x))
theorem leCmpIsNaNInt (n : Nat) (x : Int) : Le (cCmpIsNaNInt n x) (tCmpIsNaNInt x) := by
  unfold cCmpIsNaNInt tCmpIsNaNInt
  repeat' (first | exact Le.rfl' _ | apply leTallyMay | refine Le.bd ?_ fun _ => ?_ | refine Le.ite ?_ ?_ | refine Le.ix fun _ => ?_ | refine Le.loop fun _ => ?_ | refine Le.sum (fun _ => ?_) (fun _ => ?_) | intro _)
def cCmpCompareInt (n : Nat) (x : Int) (y : Int) : Option Int :=
 bd ((cCmpIsNaNInt n) x) fun rA =>
 bd ((cCmpIsNaNInt n) y) fun rA1 =>
 if rA then
 if rA1 then
 some 0
 else
 some (-1)
 else
 if rA1 then
 some 1
 else
 if x < y then
 some (-1)
 else
 if y < x then
 some 1
 else
 some 0
theorem leCmpCompareInt (n : Nat) (x : Int) (y : Int) : Le (cCmpCompareInt n x y) (tCmpCompareInt x y) := by
  unfold cCmpCompareInt tCmpCompareInt
  repeat' (first | exact Le.rfl' _ | apply leTallyMay | apply leCmpIsNaNInt | refine Le.bd ?_ fun _ => ?_ | refine Le.ite ?_ ?_ | refine Le.ix fun _ => ?_ | refine Le.loop fun _ => ?_ | refine Le.sum (fun _ => ?_) (fun _ => ?_) | intro _)
def cTallyAddF1 (n : Nat) (x : ApiAccept) (byA : Int) : Option Int :=
 bd ((cCmpCompareInt n) x.By byA) fun rA =>
 some rA
theorem leTallyAddF1 (n : Nat) (x : ApiAccept) (byA : Int) : Le (cTallyAddF1 n x byA) (tTallyAddF1 x byA) := by
  unfold cTallyAddF1 tTallyAddF1
  repeat' (first | exact Le.rfl' _ | apply leTallyMay | apply leCmpIsNaNInt | apply leCmpCompareInt | refine Le.bd ?_ fun _ => ?_ | refine Le.ite ?_ ?_ | refine Le.ix fun _ => ?_ | refine Le.loop fun _ => ?_ | refine Le.sum (fun _ => ?_) (fun _ => ?_) | intro _)
def cSlicesBinarySearchFuncApiAcceptIntL1 (n : Nat) (x : List ApiAccept) (target : Int) (cmp : ApiAccept → Int → Option Int) (st : Int × Int) : Option ((Int × Int) ⊕ Int) :=
 if st.1 < st.2 then
 if (0 : Int) ≤ 1 then
 ix x (IntKind.wrap .i64 (Int.fdiv (IntKind.wrap .u64 (IntKind.wrap .i64 (st.1 + st.2))) (2 ^ min (Int.toNat 1) (IntKind.bits .u64)))) fun y =>
 bd (cmp y target) fun rA =>
 bd (
   if rA < 0 then
   some (IntKind.wrap .i64 ((IntKind.wrap .i64 (Int.fdiv (IntKind.wrap .u64 (IntKind.wrap .i64 (st.1 + st.2))) (2 ^ min (Int.toNat 1) (IntKind.bits .u64)))) + 1), st.2)
   else
   some (st.1, IntKind.wrap .i64 (Int.fdiv (IntKind.wrap .u64 (IntKind.wrap .i64 (st.1 + st.2))) (2 ^ min (Int.toNat 1) (IntKind.bits .u64)))) : Option (Int × Int)) fun w1 =>
 some (.inl (w1.1, w1.2))
 else none
 else
 some (.inr st.1)
theorem leSlicesBinarySearchFuncApiAcceptIntL1 (n : Nat) (x : List ApiAccept) (target : Int) (cmp cmpA : ApiAccept → Int → Option Int) (hcmp : ∀ u0 u1, Le (cmp u0 u1) (cmpA u0 u1)) (st : Int × Int) : Le (cSlicesBinarySearchFuncApiAcceptIntL1 n x target cmp st) (tSlicesBinarySearchFuncApiAcceptIntL1 x target cmpA st) := by
  unfold cSlicesBinarySearchFuncApiAcceptIntL1 tSlicesBinarySearchFuncApiAcceptIntL1
  repeat' (first | exact Le.rfl' _ | apply leTallyMay | apply leCmpIsNaNInt | apply leCmpCompareInt | apply leTallyAddF1 | exact hcmp _ _ _ | exact hcmp _ _ | exact hcmp _ | exact hcmp | refine Le.bd ?_ fun _ => ?_ | refine Le.ite ?_ ?_ | refine Le.ix fun _ => ?_ | refine Le.loop fun _ => ?_ | refine Le.sum (fun _ => ?_) (fun _ => ?_) | intro _)
def cSlicesBinarySearchFuncApiAcceptInt (n : Nat) (x : List ApiAccept) (target : Int) (cmp : ApiAccept → Int → Option Int) : Option (Int × Bool) :=
 bd (LoopC n ((cSlicesBinarySearchFuncApiAcceptIntL1 n) x target cmp) (0, (x.length : Int))) fun w =>
 bd (
   if w < (x.length : Int) then
   ix x w fun y1 =>
   bd (cmp y1 target) fun rA1 =>
   some (w, decide (rA1 = 0))
   else
   some (w, false) : Option (Int × Bool)) fun w2 =>
 some (w2.1, w2.2)
theorem leSlicesBinarySearchFuncApiAcceptInt (n : Nat) (x : List ApiAccept) (target : Int) (cmp cmpA : ApiAccept → Int → Option Int) (hcmp : ∀ u0 u1, Le (cmp u0 u1) (cmpA u0 u1)) : Le (cSlicesBinarySearchFuncApiAcceptInt n x target cmp) (tSlicesBinarySearchFuncApiAcceptInt x target cmpA) := by
  unfold cSlicesBinarySearchFuncApiAcceptInt tSlicesBinarySearchFuncApiAcceptInt
  repeat' (first | exact Le.rfl' _ | apply leTallyMay | apply leCmpIsNaNInt | apply leCmpCompareInt | apply leTallyAddF1 | apply leSlicesBinarySearchFuncApiAcceptIntL1 | exact hcmp _ _ _ | exact hcmp _ _ | exact hcmp _ | exact hcmp | refine Le.bd ?_ fun _ => ?_ | refine Le.ite ?_ ?_ | refine Le.ix fun _ => ?_ | refine Le.loop fun _ => ?_ | refine Le.sum (fun _ => ?_) (fun _ => ?_) | intro _)
def cTallyAdd (n : Nat) (t : TallyTally) (a : ApiAccept) : Option (TallyTally × Bool) :=
 bd ((cTallyMay n) a) fun rA =>
 if !rA then
 some (t, false)
 else
 bd ((cSlicesBinarySearchFuncApiAcceptInt n) t.L a.By (cTallyAddF1 n)) fun rA1 =>
 bd (
   if rA1.2 then
   ix t.L rA1.1 fun y =>
   some (decide (a.View ≤ y.View))
   else
   some false : Option Bool) fun w =>
 if w then
 some (t, false)
 else
 bd (tClone 32 t.L) fun rA2 =>
 bd (
   if rA1.2 then
   ix rA2 rA1.1 fun y1 =>
   some (rA2.set (Int.toNat rA1.1) a)
   else
   bd (tInsert 32 rA2 rA1.1 ([a] : List ApiAccept)) fun rA3 =>
   some rA3 : Option (List ApiAccept)) fun w1 =>
 some ((⟨w1⟩ : TallyTally), true)
theorem leTallyAdd (n : Nat) (t : TallyTally) (a : ApiAccept) : Le (cTallyAdd n t a) (tTallyAdd t a) := by
  unfold cTallyAdd tTallyAdd
  repeat' (first | exact Le.rfl' _ | apply leTallyMay | apply leCmpIsNaNInt | apply leCmpCompareInt | apply leTallyAddF1 | apply leSlicesBinarySearchFuncApiAcceptInt | refine Le.bd ?_ fun _ => ?_ | refine Le.ite ?_ ?_ | refine Le.ix fun _ => ?_ | refine Le.loop fun _ => ?_ | refine Le.sum (fun _ => ?_) (fun _ => ?_) | intro _)
def cTallyBestL1 (n : Nat) (a : TallyTally) (st : (List MV) × Int) : Option (((List MV) × Int) ⊕ (List MV)) :=
 if st.2 < (a.L.length : Int) then
 ix a.L st.2 fun y =>
 if (0 : Int) ≤ (midx st.1 ([.i .i64 y.View, .s y.Value] : List MV) : Int) ∧ Int.toNat (midx st.1 ([.i .i64 y.View, .s y.Value] : List MV) : Int) < (ment st.1 ([.i .i64 y.View, .s y.Value] : List MV) (.i .i64 0)).length then
 some (.inl (mset (ment st.1 ([.i .i64 y.View, .s y.Value] : List MV) (.i .i64 0)) (Int.toNat (midx st.1 ([.i .i64 y.View, .s y.Value] : List MV) : Int)) (.i .i64 (IntKind.wrap .i64 ((mgetI st.1 ([.i .i64 y.View, .s y.Value] : List MV)) + 1))), IntKind.wrap .i64 (st.2 + 1)))
 else none
 else
 some (.inr st.1)
theorem leTallyBestL1 (n : Nat) (a : TallyTally) (st : (List MV) × Int) : Le (cTallyBestL1 n a st) (tTallyBestL1 a st) := by
  unfold cTallyBestL1 tTallyBestL1
  repeat' (first | exact Le.rfl' _ | apply leTallyMay | apply leCmpIsNaNInt | apply leCmpCompareInt | apply leTallyAddF1 | apply leSlicesBinarySearchFuncApiAcceptInt | apply leTallyAdd | refine Le.bd ?_ fun _ => ?_ | refine Le.ite ?_ ?_ | refine Le.ix fun _ => ?_ | refine Le.loop fun _ => ?_ | refine Le.sum (fun _ => ?_) (fun _ => ?_) | intro _)
def cTallyBestL2 (n : Nat) (a : TallyTally) (a1 : Int) (w : (List MV)) (st1 : Int × (List UInt8) × Bool × Int) : Option ((Int × (List UInt8) × Bool × Int) ⊕ (Int × (List UInt8) × Bool)) :=
 if st1.2.2.2 < (a.L.length : Int) then
 ix a.L st1.2.2.2 fun y1 =>
 bd (
   if (1 : Int) ≤ a1 then
   if a1 ≤ (mgetI w ([.i .i64 y1.View, .s y1.Value] : List MV)) then
   some (decide (st1.1 < y1.View))
   else
   some false
   else
   some false : Option Bool) fun w2 =>
 bd (
   if w2 then
   some (y1.View, y1.Value, true)
   else
   some (st1.1, st1.2.1, st1.2.2.1) : Option (Int × (List UInt8) × Bool)) fun w3 =>
 some (.inl (w3.1, w3.2.1, w3.2.2, IntKind.wrap .i64 (st1.2.2.2 + 1)))
 else
 some (.inr (st1.1, st1.2.1, st1.2.2.1))
theorem leTallyBestL2 (n : Nat) (a : TallyTally) (a1 : Int) (w : (List MV)) (st1 : Int × (List UInt8) × Bool × Int) : Le (cTallyBestL2 n a a1 w st1) (tTallyBestL2 a a1 w st1) := by
  unfold cTallyBestL2 tTallyBestL2
  repeat' (first | exact Le.rfl' _ | apply leTallyMay | apply leCmpIsNaNInt | apply leCmpCompareInt | apply leTallyAddF1 | apply leSlicesBinarySearchFuncApiAcceptInt | apply leTallyAdd | apply leTallyBestL1 | refine Le.bd ?_ fun _ => ?_ | refine Le.ite ?_ ?_ | refine Le.ix fun _ => ?_ | refine Le.loop fun _ => ?_ | refine Le.sum (fun _ => ?_) (fun _ => ?_) | intro _)
def cTallyBest (n : Nat) (a : TallyTally) (a1 : Int) : Option (Int × (List UInt8) × Bool) :=
 bd (LoopC n ((cTallyBestL1 n) a) (([] : List MV), 0)) fun w =>
 bd (LoopC n ((cTallyBestL2 n) a a1 w) ((-1), ([] : List UInt8), false, 0)) fun w1 =>
 if !w1.2.2 then
 some (0, ([] : List UInt8), false)
 else
 some (w1.1, w1.2.1, true)
theorem leTallyBest (n : Nat) (a : TallyTally) (a1 : Int) : Le (cTallyBest n a a1) (tTallyBest a a1) := by
  unfold cTallyBest tTallyBest
  repeat' (first | exact Le.rfl' _ | apply leTallyMay | apply leCmpIsNaNInt | apply leCmpCompareInt | apply leTallyAddF1 | apply leSlicesBinarySearchFuncApiAcceptInt | apply leTallyAdd | apply leTallyBestL1 | apply leTallyBestL2 | refine Le.bd ?_ fun _ => ?_ | refine Le.ite ?_ ?_ | refine Le.ix fun _ => ?_ | refine Le.loop fun _ => ?_ | refine Le.sum (fun _ => ?_) (fun _ => ?_) | intro _)
def cTallyVotersL1 (n : Nat) (t : TallyTally) (view : Int) (value : List UInt8) (st : (List ApiAccept) × Int) : Option (((List ApiAccept) × Int) ⊕ (List ApiAccept)) :=
 if st.2 < (t.L.length : Int) then
 ix t.L st.2 fun y =>
 bd (
   if y.View = view then
   some (decide (y.Value = value))
   else
   some false : Option Bool) fun w1 =>
 bd (
   if w1 then
   if (st.1.length + ([y] : List ApiAccept).length) * 32 ≤ 2 ^ 46 then
   some (st.1 ++ ([y] : List ApiAccept))
   else none
   else
   some st.1 : Option (List ApiAccept)) fun w2 =>
 some (.inl (w2, IntKind.wrap .i64 (st.2 + 1)))
 else
 some (.inr st.1)
theorem leTallyVotersL1 (n : Nat) (t : TallyTally) (view : Int) (value : List UInt8) (st : (List ApiAccept) × Int) : Le (cTallyVotersL1 n t view value st) (tTallyVotersL1 t view value st) := by
  unfold cTallyVotersL1 tTallyVotersL1
  repeat' (first | exact Le.rfl' _ | apply leTallyMay | apply leCmpIsNaNInt | apply leCmpCompareInt | apply leTallyAddF1 | apply leSlicesBinarySearchFuncApiAcceptInt | apply leTallyAdd | apply leTallyBest | refine Le.bd ?_ fun _ => ?_ | refine Le.ite ?_ ?_ | refine Le.ix fun _ => ?_ | refine Le.loop fun _ => ?_ | refine Le.sum (fun _ => ?_) (fun _ => ?_) | intro _)
def cTallyVoters (n : Nat) (t : TallyTally) (view : Int) (value : List UInt8) : Option (List ApiAccept) :=
 bd (LoopC n ((cTallyVotersL1 n) t view value) (([] : List ApiAccept), 0)) fun w =>
 some w
theorem leTallyVoters (n : Nat) (t : TallyTally) (view : Int) (value : List UInt8) : Le (cTallyVoters n t view value) (tTallyVoters t view value) := by
  unfold cTallyVoters tTallyVoters
  repeat' (first | exact Le.rfl' _ | apply leTallyMay | apply leCmpIsNaNInt | apply leCmpCompareInt | apply leTallyAddF1 | apply leSlicesBinarySearchFuncApiAcceptInt | apply leTallyAdd | apply leTallyBest | apply leTallyVotersL1 | refine Le.bd ?_ fun _ => ?_ | refine Le.ite ?_ ?_ | refine Le.ix fun _ => ?_ | refine Le.loop fun _ => ?_ | refine Le.sum (fun _ => ?_) (fun _ => ?_) | intro _)
def cTallyCount (n : Nat) (t : TallyTally) (view : Int) (value : List UInt8) : Option Int :=
 bd ((cTallyVoters n) t view value) fun rA =>
 some (rA.length : Int)
theorem leTallyCount (n : Nat) (t : TallyTally) (view : Int) (value : List UInt8) : Le (cTallyCount n t view value) (tTallyCount t view value) := by
  unfold cTallyCount tTallyCount
  repeat' (first | exact Le.rfl' _ | apply leTallyMay | apply leCmpIsNaNInt | apply leCmpCompareInt | apply leTallyAddF1 | apply leSlicesBinarySearchFuncApiAcceptInt | apply leTallyAdd | apply leTallyBest | apply leTallyVoters | refine Le.bd ?_ fun _ => ?_ | refine Le.ite ?_ ?_ | refine Le.ix fun _ => ?_ | refine Le.loop fun _ => ?_ | refine Le.sum (fun _ => ?_) (fun _ => ?_) | intro _)
def cL18Alive (n : Nat) : Option Bool :=
 bd ((cTallyAdd n) (⟨([] : List ApiAccept)⟩ : TallyTally) (⟨2, 1, ([97] : List UInt8)⟩ : ApiAccept)) fun rA =>
 bd ((cTallyAdd n) rA.1 (⟨2, 1, ([98] : List UInt8)⟩ : ApiAccept)) fun rA1 =>
 bd ((cTallyBest n) rA1.1 1) fun rA2 =>
 bd (
   if rA.2 then
   if !rA1.2 then
   if rA2.2.2 then
   if rA2.1 = 1 then
   if rA2.2.1 = ([97] : List UInt8) then
   bd ((cTallyCount n) rA.1 1 ([97] : List UInt8)) fun rA3 =>
   some (decide (rA3 = 1))
   else
   some false
   else
   some false
   else
   some false
   else
   some false
   else
   some false : Option Bool) fun w =>
 some w
theorem leL18Alive (n : Nat) : Le (cL18Alive n) (tL18Alive) := by
  unfold cL18Alive tL18Alive
  repeat' (first | exact Le.rfl' _ | apply leTallyMay | apply leCmpIsNaNInt | apply leCmpCompareInt | apply leTallyAddF1 | apply leSlicesBinarySearchFuncApiAcceptInt | apply leTallyAdd | apply leTallyBest | apply leTallyVoters | apply leTallyCount | refine Le.bd ?_ fun _ => ?_ | refine Le.ite ?_ ?_ | refine Le.ix fun _ => ?_ | refine Le.loop fun _ => ?_ | refine Le.sum (fun _ => ?_) (fun _ => ?_) | intro _)
theorem evL18Alive : tL18Alive = some true := leL18Alive 200 _ (by decide +kernel)
end Dn.S
