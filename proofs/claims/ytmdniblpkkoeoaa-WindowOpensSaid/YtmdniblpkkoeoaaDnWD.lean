import Derived.Test.YtmdniblpkkoeoaaDnWTab
import Derived.Test.YtmdniblpkkoeoaaDnWT
import Derived.KernelRfl
import Derived.Test.YtmdniblpkkoeoaaProg
/-
  The functions, on plain values, and their contracts. Conditions: none.
-/
open Go Dn Go.Proofs
set_option linter.unusedVariables false
set_option linter.unusedSimpArgs false
set_option maxRecDepth 100000
namespace Dn.S
theorem tab_ok : TIok Try.prog (lookT tiTab) := tabB_ok (by kernel_rfl)
theorem eq_ok : EqOK Try.prog (lookT tiTab) := eqTabB_ok (by kernel_rfl)
theorem mix_ok : Try.prog.follows .mixedOrders = true := by kernel_rfl
def lookH : List (Nat × Hint) → Nat → Hint
  | [], _ => default
  | (k, s) :: r, t => bif Nat.beq k t then s else lookH r t
def lookL : List (Nat × List Nat) → Nat → List Nat
  | [], _ => []
  | (k, s) :: r, t => bif Nat.beq k t then s else lookL r t
def lookN : List (Nat × Nat) → Nat → Nat
  | [], _ => 0
  | (k, s) :: r, t => bif Nat.beq k t then s else lookN r t
def kk (n : Nat) : Nat := n
def gv (n : Nat) : Bool := nmem [70, 76, 84] n
def frs (n : Nat) : Bool := nmem [70, 71, 75, 76, 83, 84] n
def ftyOf : List (Nat × Nat) := [(70, 34), (71, 34), (75, 48), (76, 48), (83, 88), (84, 88)]
def cx : Ctx := ⟨lookT tiTab, kk, fun _ _ => none, gv, frs, lookN ftyOf, 0, [], fun _ => [], fun _ => default, fun _ => default, fun _ => default⟩
def tiAt (t : Nat) : TI := match lookT tiTab t with | some I => I | none => ⟨false, 0, 0, [], [], [], [], 0, []⟩
theorem tv23 : cx.tv 23 = some (tiAt 23) := by kernel_rfl
theorem tv34 : cx.tv 34 = some (tiAt 34) := by kernel_rfl
theorem ins70 : InsFn Try.prog 70 23 3 4 34 100 Try.f70 (fun k => k) (opAt Try.f70 noOp) (insTail (opAt Try.f70 noOp)) := by
  refine ⟨Try.func70, by kernel_rfl, by kernel_rfl, by kernel_rfl, by kernel_rfl, ?_, mix_ok, by kernel_rfl⟩
  exact ⟨⟨by kernel_rfl, by kernel_rfl, by kernel_rfl⟩, ⟨by kernel_rfl, by kernel_rfl, by kernel_rfl⟩, ⟨by kernel_rfl, by kernel_rfl, by kernel_rfl⟩, ⟨by kernel_rfl, by kernel_rfl, by kernel_rfl⟩, ⟨by kernel_rfl, by kernel_rfl, by kernel_rfl⟩, ⟨by kernel_rfl, by kernel_rfl, by kernel_rfl⟩, ⟨by kernel_rfl, by kernel_rfl, by kernel_rfl⟩, ⟨by kernel_rfl, by kernel_rfl, by kernel_rfl⟩, ⟨by kernel_rfl, by kernel_rfl, by kernel_rfl⟩, ⟨by kernel_rfl, by kernel_rfl, by kernel_rfl⟩, ⟨by kernel_rfl, by kernel_rfl, by kernel_rfl⟩, ⟨by kernel_rfl, by kernel_rfl, by kernel_rfl⟩, ⟨by kernel_rfl, by kernel_rfl, by kernel_rfl⟩, ⟨by kernel_rfl, by kernel_rfl, by kernel_rfl⟩, ⟨by kernel_rfl, by kernel_rfl, by kernel_rfl⟩, ⟨by kernel_rfl, by kernel_rfl, by kernel_rfl⟩, ⟨by kernel_rfl, by kernel_rfl, by kernel_rfl⟩, ⟨by kernel_rfl, by kernel_rfl, by kernel_rfl⟩, ⟨by kernel_rfl, by kernel_rfl, by kernel_rfl⟩, ⟨by kernel_rfl, by kernel_rfl, by kernel_rfl⟩, ⟨by kernel_rfl, by kernel_rfl, by kernel_rfl⟩, ⟨by kernel_rfl, by kernel_rfl, by kernel_rfl⟩, ⟨by kernel_rfl, by kernel_rfl, by kernel_rfl⟩, ⟨by kernel_rfl, by kernel_rfl, by kernel_rfl⟩, ⟨by kernel_rfl, by kernel_rfl, by kernel_rfl⟩, ⟨by kernel_rfl, by kernel_rfl, by kernel_rfl⟩, ⟨by kernel_rfl, by kernel_rfl, by kernel_rfl⟩, ⟨by kernel_rfl, by kernel_rfl, by kernel_rfl⟩, ⟨by kernel_rfl, by kernel_rfl, by kernel_rfl⟩, ⟨by kernel_rfl, by kernel_rfl, by kernel_rfl⟩, ⟨by kernel_rfl, by kernel_rfl, by kernel_rfl⟩, ⟨by kernel_rfl, by kernel_rfl, by kernel_rfl⟩, ⟨by kernel_rfl, by kernel_rfl, by kernel_rfl⟩, ⟨by kernel_rfl, by kernel_rfl, by kernel_rfl⟩, ⟨by kernel_rfl, by kernel_rfl, by kernel_rfl⟩, ⟨by kernel_rfl, by kernel_rfl, by kernel_rfl⟩, ⟨by kernel_rfl, by kernel_rfl, by kernel_rfl⟩, ⟨by kernel_rfl, by kernel_rfl, by kernel_rfl⟩, ⟨by kernel_rfl, by kernel_rfl, by kernel_rfl⟩, ⟨by kernel_rfl, by kernel_rfl, by kernel_rfl⟩, ⟨by kernel_rfl, by kernel_rfl, by kernel_rfl⟩, ⟨by kernel_rfl, by kernel_rfl, by kernel_rfl⟩, ⟨by kernel_rfl, by kernel_rfl, by kernel_rfl⟩, ⟨by kernel_rfl, by kernel_rfl, by kernel_rfl⟩, ⟨by kernel_rfl, by kernel_rfl, by kernel_rfl⟩, ⟨by kernel_rfl, by kernel_rfl, by kernel_rfl⟩, ⟨by kernel_rfl, by kernel_rfl, by kernel_rfl⟩, ⟨by kernel_rfl, by kernel_rfl, by kernel_rfl⟩, ⟨by kernel_rfl, by kernel_rfl, by kernel_rfl⟩, ⟨by kernel_rfl, by kernel_rfl, by kernel_rfl⟩, ⟨by kernel_rfl, by kernel_rfl, by kernel_rfl⟩, ⟨by kernel_rfl, by kernel_rfl, by kernel_rfl⟩, ⟨by kernel_rfl, by kernel_rfl, by kernel_rfl⟩, ⟨by kernel_rfl, by kernel_rfl, by kernel_rfl⟩, ⟨by kernel_rfl, by kernel_rfl, by kernel_rfl⟩, ⟨by kernel_rfl, by kernel_rfl, by kernel_rfl⟩, ⟨by kernel_rfl, by kernel_rfl, by kernel_rfl⟩, ⟨by kernel_rfl, by kernel_rfl, by kernel_rfl⟩, ⟨by kernel_rfl, by kernel_rfl, by kernel_rfl⟩, ⟨by kernel_rfl, by kernel_rfl, by kernel_rfl⟩, ⟨by kernel_rfl, by kernel_rfl, by kernel_rfl⟩, ⟨by kernel_rfl, by kernel_rfl, by kernel_rfl⟩, ⟨by kernel_rfl, by kernel_rfl, by kernel_rfl⟩, ⟨by kernel_rfl, by kernel_rfl, by kernel_rfl⟩, ⟨by kernel_rfl, by kernel_rfl, by kernel_rfl⟩, ⟨by kernel_rfl, by kernel_rfl, by kernel_rfl⟩, ⟨by kernel_rfl, by kernel_rfl, by kernel_rfl⟩, ⟨by kernel_rfl, by kernel_rfl, by kernel_rfl⟩, ⟨by kernel_rfl, by kernel_rfl, by kernel_rfl⟩, ⟨by kernel_rfl, by kernel_rfl, by kernel_rfl⟩, ⟨by kernel_rfl, by kernel_rfl, by kernel_rfl⟩, ⟨by kernel_rfl, by kernel_rfl, by kernel_rfl⟩, ⟨by kernel_rfl, by kernel_rfl, by kernel_rfl⟩, ⟨by kernel_rfl, by kernel_rfl, by kernel_rfl⟩, ⟨by kernel_rfl, by kernel_rfl, by kernel_rfl⟩, ⟨by kernel_rfl, by kernel_rfl, by kernel_rfl⟩, ⟨by kernel_rfl, by kernel_rfl, by kernel_rfl⟩, ⟨by kernel_rfl, by kernel_rfl, by kernel_rfl⟩, ⟨by kernel_rfl, by kernel_rfl, by kernel_rfl⟩, ⟨by kernel_rfl, by kernel_rfl, by kernel_rfl⟩, ⟨by kernel_rfl, by kernel_rfl, by kernel_rfl⟩, ⟨by kernel_rfl, by kernel_rfl, by kernel_rfl⟩, ⟨by kernel_rfl, by kernel_rfl, by kernel_rfl⟩, by kernel_rfl, by kernel_rfl⟩
theorem ov70 : ∀ args w, (callFunc 100 args).run Try.prog w = ((Extern.SlicesOverlaps.overlaps #[23, 23] #[4] args).run Try.prog w).andThen fun v w' => .ok (.value v) w' := fun args w => run_callFunc_extern Try.func100 (by kernel_rfl) (by kernel_rfl) (by kernel_rfl) (e := Extern.SlicesOverlaps.overlaps #[23, 23] #[4]) (by kernel_rfl) args w
theorem hand70 {g : Nat → List MV → Option MV} (h : SoundG Try.prog cx g) : SoundG Try.prog cx (addG 70 (insertF 24) g) := h.add1 (fun _ => rfl) (fun ms r hr => by
  obtain ⟨xs, ys, i, rfl, rfl, h1, h2, h3⟩ := insertF_some hr
  exact insert_ok (P := Try.prog) (c := cx) (I := tiAt 23) (E := tiAt 34) ins70 tab_ok tv23 (by kernel_rfl) tv34 (Nat.le_of_ble_eq_true (by kernel_rfl)) (by kernel_rfl) (by kernel_rfl) (by kernel_rfl) (by kernel_rfl) ov70 h1 h2 (by rw [show (tiAt 34).bytes = 24 by kernel_rfl]; exact h3))
theorem hand71 {g : Nat → List MV → Option MV} (h : SoundG Try.prog cx g) : SoundG Try.prog cx (addG 71 (cloneF 2 24) g) := h.add1 (fun _ => rfl) (fun ms r hr => by
  obtain ⟨xs, rfl, rfl, h1, h2⟩ := cloneF_some hr
  exact clone_ok (P := Try.prog) (c := cx) (f := 71) (fn := Try.f71) (t := 23) (I := tiAt 23) (E := tiAt 34) (i0 := 0) (i1 := 1) (i2 := 2) (i3 := 3) (oA := opAt Try.f71 noOp 0) (oB := opAt Try.f71 noOp 1) (oC := opAt Try.f71 noOp 2) (oD := opAt Try.f71 noOp 3) (oE := opAt Try.f71 noOp 4) (oF := opAt Try.f71 noOp 5) (oG := opAt Try.f71 noOp 6) (oH := opAt Try.f71 noOp 7) tab_ok tv23 (by kernel_rfl) tv34 (Nat.le_of_ble_eq_true (by kernel_rfl)) (by kernel_rfl) (by kernel_rfl) Try.func71 (by kernel_rfl) (by kernel_rfl) (by kernel_rfl) (by kernel_rfl)
    ⟨by kernel_rfl, by kernel_rfl, by kernel_rfl⟩ ⟨by kernel_rfl, by kernel_rfl, by kernel_rfl⟩ ⟨by kernel_rfl, by kernel_rfl, by kernel_rfl⟩ ⟨by kernel_rfl, by kernel_rfl, by kernel_rfl⟩ ⟨by kernel_rfl, by kernel_rfl, by kernel_rfl⟩ ⟨by kernel_rfl, by kernel_rfl, by kernel_rfl⟩ ⟨by kernel_rfl, by kernel_rfl, by kernel_rfl⟩ ⟨by kernel_rfl, by kernel_rfl, by kernel_rfl⟩ (by rw [show (tiAt 34).size = 2 by kernel_rfl]; exact h1) (by rw [show (tiAt 34).bytes = 24 by kernel_rfl]; exact h2))
noncomputable def H70 : Nat → List MV → Option MV := addG 70 (insertF 24) (fun _ _ => none)
theorem soundH70 : SoundG Try.prog cx H70 := hand70 (SoundG.none _ _)
noncomputable def H71 : Nat → List MV → Option MV := addG 71 (cloneF 2 24) H70
theorem soundH71 : SoundG Try.prog cx H71 := hand71 soundH70

noncomputable def cxWindowNew : Ctx := ⟨lookT tiTab, kk, H71, gv, frs, lookN ftyOf, 13, [], lookL [], lookH [(1, ⟨[0, 2], [], [], [(0, [(9, .sc (.k .b))])], []⟩)], lookH [], lookH []⟩
noncomputable def dWindowNew (size : MV) : Option MV :=
 gI .i64 size fun size1 =>
 bd (
 ifB (decide (size1 < 1)) (
 some [.b true]) (
 some [.b (decide ((16 : Int) < size1))])) fun vs =>
 gC vs fun m msA =>
 gB m fun x =>
 gN msA <|
 ifB x (
 some (.tup [.agg [.i .i64 0, .i .i64 0, .list ([] : List MV)], .i .i64 1])) (
 some (.tup [.agg [.i .i64 size1, .i .i64 0, .list ([] : List MV)], .i .i64 0]))
theorem linkWindowNew (size : MV) : bodyK cxWindowNew [] none Try.f16 [size] = dWindowNew size := by kernel_rfl
noncomputable def gWindowNew : Nat → List MV → Option MV := addG 16 (lst1 dWindowNew) H71
theorem soundWindowNew : SoundG Try.prog cx gWindowNew :=
  soundH71.fn (c' := cxWindowNew) (caps := []) ⟨rfl, rfl, rfl, rfl, rfl⟩ rfl tab_ok eq_ok mix_ok Try.func16 (by kernel_rfl) (fun _ => rfl) (lst1_of linkWindowNew)

noncomputable def cxCmpIsNaNInt : Ctx := ⟨lookT tiTab, kk, gWindowNew, gv, frs, lookN ftyOf, 6, [], lookL [], lookH [], lookH [], lookH []⟩
noncomputable def dCmpIsNaNInt (x : MV) : Option MV :=
 gI .i64 x fun x1 =>
 some (.b (!decide (x1 = x1)))
theorem linkCmpIsNaNInt (x : MV) : bodyK cxCmpIsNaNInt [] none Try.f102 [x] = dCmpIsNaNInt x := by kernel_rfl
noncomputable def gCmpIsNaNInt : Nat → List MV → Option MV := addG 102 (lst1 dCmpIsNaNInt) gWindowNew
theorem soundCmpIsNaNInt : SoundG Try.prog cx gCmpIsNaNInt :=
  soundWindowNew.fn (c' := cxCmpIsNaNInt) (caps := []) ⟨rfl, rfl, rfl, rfl, rfl⟩ rfl tab_ok eq_ok mix_ok Try.func102 (by kernel_rfl) (fun _ => rfl) (lst1_of linkCmpIsNaNInt)

noncomputable def cxCmpCompareInt : Ctx := ⟨lookT tiTab, kk, gCmpIsNaNInt, gv, frs, lookN ftyOf, 20, [], lookL [], lookH [], lookH [], lookH []⟩
noncomputable def dCmpCompareInt (x y : MV) : Option MV :=
 gI .i64 x fun x1 =>
 gI .i64 y fun y1 =>
 bd (dCmpIsNaNInt (.i .i64 x1)) fun rA =>
 gB rA fun x2 =>
 bd (dCmpIsNaNInt (.i .i64 y1)) fun rA1 =>
 gB rA1 fun x3 =>
 ifB x2 (
 ifB x3 (
 some (.i .i64 0)) (
 some (.i .i64 (-1)))) (
 ifB x3 (
 some (.i .i64 1)) (
 ifB (decide (x1 < y1)) (
 some (.i .i64 (-1))) (
 ifB (decide (y1 < x1)) (
 some (.i .i64 1)) (
 some (.i .i64 0)))))
theorem linkCmpCompareInt (x y : MV) : bodyK cxCmpCompareInt [] none Try.f74 [x, y] = dCmpCompareInt x y := by kernel_rfl
noncomputable def gCmpCompareInt : Nat → List MV → Option MV := addG 74 (lst2 dCmpCompareInt) gCmpIsNaNInt
theorem soundCmpCompareInt : SoundG Try.prog cx gCmpCompareInt :=
  soundCmpIsNaNInt.fn (c' := cxCmpCompareInt) (caps := []) ⟨rfl, rfl, rfl, rfl, rfl⟩ rfl tab_ok eq_ok mix_ok Try.func74 (by kernel_rfl) (fun _ => rfl) (lst2_of linkCmpCompareInt)

noncomputable def cxWindowWindowPlaceF1 : Ctx := ⟨lookT tiTab, kk, gCmpCompareInt, gv, frs, lookN ftyOf, 9, [], lookL [], lookH [], lookH [], lookH []⟩
noncomputable def dWindowWindowPlaceF1 (x slot : MV) : Option MV :=
 gA x fun cs =>
 gC cs fun m msA =>
 gI .i64 m fun Slot =>
 gC msA fun m1 msA1 =>
 gS m1 fun Value =>
 gN msA1 <|
 gI .i64 slot fun slot1 =>
 bd (dCmpCompareInt (.i .i64 Slot) (.i .i64 slot1)) fun rA =>
 gI .i64 rA fun x1 =>
 some (.i .i64 x1)
theorem linkWindowWindowPlaceF1 (x slot : MV) : bodyK cxWindowWindowPlaceF1 [] none Try.f99 [x, slot] = dWindowWindowPlaceF1 x slot := by kernel_rfl
noncomputable def gWindowWindowPlaceF1 : Nat → List MV → Option MV := addG 99 (lst2 dWindowWindowPlaceF1) gCmpCompareInt
theorem soundWindowWindowPlaceF1 : SoundG Try.prog cx gWindowWindowPlaceF1 :=
  soundCmpCompareInt.fn (c' := cxWindowWindowPlaceF1) (caps := []) ⟨rfl, rfl, rfl, rfl, rfl⟩ rfl tab_ok eq_ok mix_ok Try.func99 (by kernel_rfl) (fun _ => rfl) (lst2_of linkWindowWindowPlaceF1)
noncomputable def preSlicesBinarySearchFuncWindowEntryInt : Nat → List MV → Option MV := gWindowWindowPlaceF1
theorem atSlicesBinarySearchFuncWindowEntryIntWindowWindowPlaceF1 (x0 x1 : MV) : preSlicesBinarySearchFuncWindowEntryInt 99 [x0, x1] = dWindowWindowPlaceF1 x0 x1 := by kernel_rfl

noncomputable def cxSlicesBinarySearchFuncWindowEntryInt : Ctx := ⟨lookT tiTab, kk, gWindowWindowPlaceF1, gv, frs, lookN ftyOf, 49, [], lookL [], lookH [(8, ⟨[0, 1, 2, 8, 9], [], [], [(0, [(6, .sc (.k (.i .i64))), (7, .sc (.k .b))])], []⟩)], lookH [(6, ⟨[0, 1, 2, 8, 11], [], [], [(0, [(9, .sc (.k (.i .i64))), (10, .sc (.k (.i .i64)))])], []⟩)], lookH [(3, ⟨[0, 1, 2, 8], [], [(9, .sc (.k (.i .i64))), (10, .sc (.k (.i .i64)))], [(2, [(9, .sc (.k (.i .i64)))])], []⟩)]⟩
noncomputable def dSlicesBinarySearchFuncWindowEntryInt (x target cmp : MV) : Option MV :=
 gL x fun x1 =>
 gI .i64 target fun target1 =>
 gR cmp fun cmp1 =>
 lenN x1 fun len =>
 bd (Loop (fun msA =>
 gC msA fun m msA1 =>
 gI .i64 m fun i =>
 gC msA1 fun m1 msA2 =>
 gI .i64 m1 fun j =>
 gN msA2 <|
 ifB (decide (i < j)) (
 chk (decide ((0 : Int) ≤ 1)) <|
 idx x1 (IntKind.wrap .i64 (Int.fdiv (IntKind.wrap .u64 (IntKind.wrap .i64 (i + j))) (2 ^ min (Int.toNat 1) (IntKind.bits .u64)))) fun y =>
 gA y fun cs =>
 gC cs fun m2 msA3 =>
 gI .i64 m2 fun Slot =>
 gC msA3 fun m3 msA4 =>
 gS m3 fun Value =>
 gN msA4 <|
 gFn cmp1 fun fn cap =>
 chk (!gv fn) <|
 bd (preSlicesBinarySearchFuncWindowEntryInt fn ([.agg [.i .i64 Slot, .s Value], .i .i64 target1] ++ cap)) fun rA =>
 gI .i64 rA fun x2 =>
 bd (
 ifB (decide (x2 < 0)) (
 some (0, [.i .i64 (IntKind.wrap .i64 ((IntKind.wrap .i64 (Int.fdiv (IntKind.wrap .u64 (IntKind.wrap .i64 (i + j))) (2 ^ min (Int.toNat 1) (IntKind.bits .u64)))) + 1)), .i .i64 j])) (
 some (0, [.i .i64 i, .i .i64 (IntKind.wrap .i64 (Int.fdiv (IntKind.wrap .u64 (IntKind.wrap .i64 (i + j))) (2 ^ min (Int.toNat 1) (IntKind.bits .u64))))]))) fun p1 =>
 chk (Nat.beq p1.1 0) <|
 gC p1.2 fun m4 msA5 =>
 gI .i64 m4 fun i1 =>
 gC msA5 fun m5 msA6 =>
 gI .i64 m5 fun j1 =>
 gN msA6 <|
 some (.inl [.i .i64 i1, .i .i64 j1])) (
 some (.inr (2, [.i .i64 i])))) [.i .i64 0, .i .i64 (len : Int)]) fun p =>
 chk (Nat.beq p.1 2) <|
 gC p.2 fun m6 msA7 =>
 gI .i64 m6 fun i2 =>
 gN msA7 <|
 bd (
 ifB (decide (i2 < (len : Int))) (
 idx x1 i2 fun y1 =>
 gA y1 fun cs1 =>
 gC cs1 fun m7 msA8 =>
 gI .i64 m7 fun Slot1 =>
 gC msA8 fun m8 msA9 =>
 gS m8 fun Value1 =>
 gN msA9 <|
 gFn cmp1 fun fn1 cap1 =>
 chk (!gv fn1) <|
 bd (preSlicesBinarySearchFuncWindowEntryInt fn1 ([.agg [.i .i64 Slot1, .s Value1], .i .i64 target1] ++ cap1)) fun rA1 =>
 gI .i64 rA1 fun x3 =>
 some [.i .i64 i2, .b (decide (x3 = 0))]) (
 some [.i .i64 i2, .b false])) fun vs =>
 gC vs fun m9 msA10 =>
 gI .i64 m9 fun x4 =>
 gC msA10 fun m10 msA11 =>
 gB m10 fun x5 =>
 gN msA11 <|
 some (.tup [.i .i64 x4, .b x5])
theorem linkSlicesBinarySearchFuncWindowEntryInt (x target cmp : MV) : bodyK cxSlicesBinarySearchFuncWindowEntryInt [] none Try.f98 [x, target, cmp] = dSlicesBinarySearchFuncWindowEntryInt x target cmp := by kernel_rfl
noncomputable def gSlicesBinarySearchFuncWindowEntryInt : Nat → List MV → Option MV := addG 98 (lst3 dSlicesBinarySearchFuncWindowEntryInt) gWindowWindowPlaceF1
theorem soundSlicesBinarySearchFuncWindowEntryInt : SoundG Try.prog cx gSlicesBinarySearchFuncWindowEntryInt :=
  soundWindowWindowPlaceF1.fn (c' := cxSlicesBinarySearchFuncWindowEntryInt) (caps := []) ⟨rfl, rfl, rfl, rfl, rfl⟩ rfl tab_ok eq_ok mix_ok Try.func98 (by kernel_rfl) (fun _ => rfl) (lst3_of linkSlicesBinarySearchFuncWindowEntryInt)

noncomputable def cxWindowWindowPlace : Ctx := ⟨lookT tiTab, kk, gSlicesBinarySearchFuncWindowEntryInt, gv, frs, lookN ftyOf, 12, [], lookL [], lookH [], lookH [], lookH []⟩
noncomputable def dWindowWindowPlace (w slot : MV) : Option MV :=
 gA w fun cs =>
 gC cs fun m msA =>
 gI .i64 m fun Size =>
 gC msA fun m1 msA1 =>
 gI .i64 m1 fun Next =>
 gC msA1 fun m2 msA2 =>
 gL m2 fun L =>
 gN msA2 <|
 gI .i64 slot fun slot1 =>
 bd (dSlicesBinarySearchFuncWindowEntryInt (.list L) (.i .i64 slot1) (.func 99 [])) fun rA =>
 gT rA fun vs =>
 gC vs fun m3 msA3 =>
 gI .i64 m3 fun x =>
 gC msA3 fun m4 msA4 =>
 gB m4 fun x1 =>
 gN msA4 <|
 some (.tup [.i .i64 x, .b x1])
theorem linkWindowWindowPlace (w slot : MV) : bodyK cxWindowWindowPlace [] none Try.f68 [w, slot] = dWindowWindowPlace w slot := by kernel_rfl
noncomputable def gWindowWindowPlace : Nat → List MV → Option MV := addG 68 (lst2 dWindowWindowPlace) gSlicesBinarySearchFuncWindowEntryInt
theorem soundWindowWindowPlace : SoundG Try.prog cx gWindowWindowPlace :=
  soundSlicesBinarySearchFuncWindowEntryInt.fn (c' := cxWindowWindowPlace) (caps := []) ⟨rfl, rfl, rfl, rfl, rfl⟩ rfl tab_ok eq_ok mix_ok Try.func68 (by kernel_rfl) (fun _ => rfl) (lst2_of linkWindowWindowPlace)

noncomputable def cxWindowWindowEnd : Ctx := ⟨lookT tiTab, kk, gWindowWindowPlace, gv, frs, lookN ftyOf, 9, [], lookL [], lookH [], lookH [], lookH []⟩
noncomputable def dWindowWindowEnd (w : MV) : Option MV :=
 gA w fun cs =>
 gC cs fun m msA =>
 gI .i64 m fun Size =>
 gC msA fun m1 msA1 =>
 gI .i64 m1 fun Next =>
 gC msA1 fun m2 msA2 =>
 gL m2 fun L =>
 gN msA2 <|
 some (.i .i64 (imin (IntKind.wrap .i64 (Next + Size)) 100000))
theorem linkWindowWindowEnd (w : MV) : bodyK cxWindowWindowEnd [] none Try.f69 [w] = dWindowWindowEnd w := by kernel_rfl
noncomputable def gWindowWindowEnd : Nat → List MV → Option MV := addG 69 (lst1 dWindowWindowEnd) gWindowWindowPlace
theorem soundWindowWindowEnd : SoundG Try.prog cx gWindowWindowEnd :=
  soundWindowWindowPlace.fn (c' := cxWindowWindowEnd) (caps := []) ⟨rfl, rfl, rfl, rfl, rfl⟩ rfl tab_ok eq_ok mix_ok Try.func69 (by kernel_rfl) (fun _ => rfl) (lst1_of linkWindowWindowEnd)

noncomputable def cxWindowLearn : Ctx := ⟨lookT tiTab, kk, gWindowWindowEnd, gv, frs, lookN ftyOf, 60, [], lookL [], lookH [(8, ⟨[1, 2, 3, 6, 8, 9], [], [], [(0, [(33, .sc (.k .b))])], [51, 56, 57]⟩)], lookH [], lookH []⟩
noncomputable def dWindowLearn (w slot value : MV) : Option MV :=
 gA w fun cs =>
 gC cs fun m msA =>
 gI .i64 m fun Size =>
 gC msA fun m1 msA1 =>
 gI .i64 m1 fun Next =>
 gC msA1 fun m2 msA2 =>
 gL m2 fun L =>
 gN msA2 <|
 gI .i64 slot fun slot1 =>
 gS value fun value1 =>
 bd (dWindowWindowPlace (.agg [.i .i64 Size, .i .i64 Next, .list L]) (.i .i64 slot1)) fun rA =>
 gT rA fun vs =>
 gC vs fun m3 msA3 =>
 gI .i64 m3 fun x =>
 gC msA3 fun m4 msA4 =>
 gB m4 fun x1 =>
 gN msA4 <|
 ifB (decide (slot1 < Next)) (
 some (.tup [.agg [.i .i64 Size, .i .i64 Next, .list L], .i .i64 15])) (
 bd (dWindowWindowEnd (.agg [.i .i64 Size, .i .i64 Next, .list L])) fun rA1 =>
 gI .i64 rA1 fun x2 =>
 ifB (decide (x2 ≤ slot1)) (
 some (.tup [.agg [.i .i64 Size, .i .i64 Next, .list L], .i .i64 9])) (
 ifB (decide ((6000 : Int) < (value1.length : Int))) (
 some (.tup [.agg [.i .i64 Size, .i .i64 Next, .list L], .i .i64 5])) (
 bd (
 ifB x1 (
 idx L x fun y =>
 gA y fun cs1 =>
 gC cs1 fun m5 msA5 =>
 gI .i64 m5 fun Slot =>
 gC msA5 fun m6 msA6 =>
 gS m6 fun Value =>
 gN msA6 <|
 some [.b (decide (Value = value1))]) (
 some [.b false])) fun vs1 =>
 gC vs1 fun m7 msA7 =>
 gB m7 fun x3 =>
 gN msA7 <|
 ifB x3 (
 some (.tup [.agg [.i .i64 Size, .i .i64 Next, .list L], .i .i64 0])) (
 ifB x1 (
 some (.tup [.agg [.i .i64 Size, .i .i64 Next, .list L], .i .i64 7])) (
 bd (cloneF 2 24 [.list L]) fun rA2 =>
 gF rA2 fun xs =>
 bd (insertF 24 [.fresh xs, .i .i64 x, .fresh ([.agg [.i .i64 slot1, .s value1]] : List MV)]) fun rA3 =>
 gF rA3 fun xs1 =>
 some (.tup [.agg [.i .i64 Size, .i .i64 Next, .list xs1], .i .i64 0]))))))
theorem linkWindowLearn (w slot value : MV) : bodyK cxWindowLearn [] none Try.f18 [w, slot, value] = dWindowLearn w slot value := by kernel_rfl
noncomputable def gWindowLearn : Nat → List MV → Option MV := addG 18 (lst3 dWindowLearn) gWindowWindowEnd
theorem soundWindowLearn : SoundG Try.prog cx gWindowLearn :=
  soundWindowWindowEnd.fn (c' := cxWindowLearn) (caps := []) ⟨rfl, rfl, rfl, rfl, rfl⟩ rfl tab_ok eq_ok mix_ok Try.func18 (by kernel_rfl) (fun _ => rfl) (lst3_of linkWindowLearn)

noncomputable def cxWindowTake : Ctx := ⟨lookT tiTab, kk, gWindowLearn, gv, frs, lookN ftyOf, 38, [22], lookL [], lookH [], lookH [], lookH [(3, ⟨[2, 8, 9], [], [(1, .box [.k (.i .i64), .k (.i .i64), .k .l]), (4, .sc (.own 23 9 true)), (10, .sc (.k (.i .i64)))], [(2, [(1, .box [.k (.i .i64), .k (.i .i64), .k .l]), (4, .sc (.own 23 9 true))])], [22, 23, 34]⟩)]⟩
noncomputable def dWindowTake (w : MV) : Option MV :=
 gA w fun cs =>
 gC cs fun m msA =>
 gI .i64 m fun Size =>
 gC msA fun m1 msA1 =>
 gI .i64 m1 fun Next =>
 gC msA1 fun m2 msA2 =>
 gL m2 fun L =>
 gN msA2 <|
 lenN L fun len =>
 bd (Loop (fun msA3 =>
 gC msA3 fun m3 msA4 =>
 gI .i64 m3 fun w2 =>
 gC msA4 fun m4 msA5 =>
 gI .i64 m4 fun w3 =>
 gC msA5 fun m5 msA6 =>
 gL m5 fun w4 =>
 gC msA6 fun m6 msA7 =>
 gL m6 fun out =>
 gC msA7 fun m7 msA8 =>
 gI .i64 m7 fun x =>
 gN msA8 <|
 ifB (decide (x < (len : Int))) (
 idx L x fun y =>
 gA y fun cs1 =>
 gC cs1 fun m8 msA9 =>
 gI .i64 m8 fun Slot =>
 gC msA9 fun m9 msA10 =>
 gS m9 fun Value =>
 gN msA10 <|
 ifB (!decide (Slot = w3)) (
 some (.inr (2, [.i .i64 w2, .i .i64 w3, .list w4, .list out]))) (
 lenN out fun len1 =>
 lenN ([.s Value] : List MV) fun len2 =>
 chk (decide ((len1 + len2) * 16 ≤ 2 ^ 46)) <|
 some (.inl [.i .i64 w2, .i .i64 (IntKind.wrap .i64 (w3 + 1)), .list w4, .list (out ++ ([.s Value] : List MV)), .i .i64 (IntKind.wrap .i64 (x + 1))]))) (
 some (.inr (2, [.i .i64 w2, .i .i64 w3, .list w4, .list out])))) [.i .i64 Size, .i .i64 Next, .list L, .list ([] : List MV), .i .i64 0]) fun p =>
 chk (Nat.beq p.1 2) <|
 gC p.2 fun m10 msA11 =>
 gI .i64 m10 fun w5 =>
 gC msA11 fun m11 msA12 =>
 gI .i64 m11 fun w6 =>
 gC msA12 fun m12 msA13 =>
 gL m12 fun w7 =>
 gC msA13 fun m13 msA14 =>
 gL m13 fun out1 =>
 gN msA14 <|
 lenN out1 fun len3 =>
 chk (wids 2 w7) <|
 lenN w7 fun len4 =>
 chk (decide ((0 : Int) ≤ (len3 : Int) ∧ (len3 : Int) ≤ (len4 : Int) ∧ (len4 : Int) ≤ (len4 : Int))) <|
 bd (cloneF 2 24 [.list (List.drop (Int.toNat (len3 : Int)) (List.take (Int.toNat (len4 : Int)) w7))]) fun rA =>
 gF rA fun xs =>
 some (.tup [.agg [.i .i64 w5, .i .i64 w6, .list xs], .list out1])
theorem linkWindowTake (w : MV) : bodyK cxWindowTake [] none Try.f19 [w] = dWindowTake w := by kernel_rfl
noncomputable def gWindowTake : Nat → List MV → Option MV := addG 19 (lst1 dWindowTake) gWindowLearn
theorem soundWindowTake : SoundG Try.prog cx gWindowTake :=
  soundWindowLearn.fn (c' := cxWindowTake) (caps := []) ⟨rfl, rfl, rfl, rfl, rfl⟩ rfl tab_ok eq_ok mix_ok Try.func19 (by kernel_rfl) (fun _ => rfl) (lst1_of linkWindowTake)

noncomputable def cxL25Alive : Ctx := ⟨lookT tiTab, kk, gWindowTake, gv, frs, lookN ftyOf, 63, [], lookL [], lookH [(6, ⟨[2, 3, 4, 6, 7, 8], [], [], [(0, [(0, .sc (.k .b))])], []⟩)], lookH [], lookH []⟩
noncomputable def dL25Alive : Option MV :=
 bd (dWindowNew (.i .i64 2)) fun rA =>
 gT rA fun vs =>
 gC vs fun m msA =>
 gA m fun cs =>
 gC cs fun m1 msA1 =>
 gI .i64 m1 fun Size =>
 gC msA1 fun m2 msA2 =>
 gI .i64 m2 fun Next =>
 gC msA2 fun m3 msA3 =>
 gL m3 fun L =>
 gN msA3 <|
 gC msA fun m4 msA4 =>
 gI .i64 m4 fun x =>
 gN msA4 <|
 bd (dWindowLearn (.agg [.i .i64 Size, .i .i64 Next, .list L]) (.i .i64 1) (.s ([98] : List UInt8))) fun rA1 =>
 gT rA1 fun vs1 =>
 gC vs1 fun m5 msA5 =>
 gA m5 fun cs1 =>
 gC cs1 fun m6 msA6 =>
 gI .i64 m6 fun Size1 =>
 gC msA6 fun m7 msA7 =>
 gI .i64 m7 fun Next1 =>
 gC msA7 fun m8 msA8 =>
 gL m8 fun L1 =>
 gN msA8 <|
 gC msA5 fun m9 msA9 =>
 gI .i64 m9 fun x1 =>
 gN msA9 <|
 bd (dWindowLearn (.agg [.i .i64 Size1, .i .i64 Next1, .list L1]) (.i .i64 0) (.s ([97] : List UInt8))) fun rA2 =>
 gT rA2 fun vs2 =>
 gC vs2 fun m10 msA10 =>
 gA m10 fun cs2 =>
 gC cs2 fun m11 msA11 =>
 gI .i64 m11 fun Size2 =>
 gC msA11 fun m12 msA12 =>
 gI .i64 m12 fun Next2 =>
 gC msA12 fun m13 msA13 =>
 gL m13 fun L2 =>
 gN msA13 <|
 gC msA10 fun m14 msA14 =>
 gI .i64 m14 fun x2 =>
 gN msA14 <|
 bd (dWindowLearn (.agg [.i .i64 Size2, .i .i64 Next2, .list L2]) (.i .i64 2) (.s ([99] : List UInt8))) fun rA3 =>
 gT rA3 fun vs3 =>
 gC vs3 fun m15 msA15 =>
 gA m15 fun cs3 =>
 gC cs3 fun m16 msA16 =>
 gI .i64 m16 fun Size3 =>
 gC msA16 fun m17 msA17 =>
 gI .i64 m17 fun Next3 =>
 gC msA17 fun m18 msA18 =>
 gL m18 fun L3 =>
 gN msA18 <|
 gC msA15 fun m19 msA19 =>
 gI .i64 m19 fun x3 =>
 gN msA19 <|
 bd (dWindowTake (.agg [.i .i64 Size2, .i .i64 Next2, .list L2])) fun rA4 =>
 gT rA4 fun vs4 =>
 gC vs4 fun m20 msA20 =>
 gA m20 fun cs4 =>
 gC cs4 fun m21 msA21 =>
 gI .i64 m21 fun Size4 =>
 gC msA21 fun m22 msA22 =>
 gI .i64 m22 fun Next4 =>
 gC msA22 fun m23 msA23 =>
 gL m23 fun L4 =>
 gN msA23 <|
 gC msA20 fun m24 msA24 =>
 gL m24 fun x4 =>
 gN msA24 <|
 bd (
 ifB (decide (x = 0)) (
 ifB (decide (x1 = 0)) (
 ifB (decide (x2 = 0)) (
 ifB (decide (x3 = 9)) (
 lenN x4 fun len =>
 ifB (decide ((len : Int) = 2)) (
 idx x4 0 fun y =>
 gS y fun x5 =>
 ifB (decide (x5 = ([97] : List UInt8))) (
 some [.b (decide (Next4 = 2))]) (
 some [.b false])) (
 some [.b false])) (
 some [.b false])) (
 some [.b false])) (
 some [.b false])) (
 some [.b false])) fun vs5 =>
 gC vs5 fun m25 msA25 =>
 gB m25 fun x6 =>
 gN msA25 <|
 some (.b x6)
theorem linkL25Alive : bodyK cxL25Alive [] none Try.f17 [] = dL25Alive  := by kernel_rfl
noncomputable def gL25Alive : Nat → List MV → Option MV := addG 17 (lst0 dL25Alive) gWindowTake
theorem soundL25Alive : SoundG Try.prog cx gL25Alive :=
  soundWindowTake.fn (c' := cxL25Alive) (caps := []) ⟨rfl, rfl, rfl, rfl, rfl⟩ rfl tab_ok eq_ok mix_ok Try.func17 (by kernel_rfl) (fun _ => rfl) (lst0_of linkL25Alive)

noncomputable def cxR25Right : Ctx := ⟨lookT tiTab, kk, gL25Alive, gv, frs, lookN ftyOf, 77, [], lookL [(7, [0, 1, 2, 3, 4, 5, 6, 7, 8, 9, 10, 11, 12, 13, 14, 15, 16, 17, 18, 19, 20, 21, 22, 23, 24, 25, 26, 27, 28, 29, 30, 31, 32, 33, 34, 35, 36, 37, 38, 39, 40, 41])], lookH [(7, ⟨[1, 3, 4], [], [], [(0, [(76, .sc (.k .b))])], []⟩), (1, ⟨[1], [], [], [(0, [(22, .sc (.k .b))])], []⟩)], lookH [], lookH [(4, ⟨[1], [], [(3, .sc (.k (.i .i64)))], [(1, [(2, .sc (.k .b))]), (2, [])], []⟩)]⟩
noncomputable def dR25Right (a : MV) : Option MV :=
 gA a fun cs =>
 gC cs fun m msA =>
 gI .i64 m fun Size =>
 gC msA fun m1 msA1 =>
 gI .i64 m1 fun Next =>
 gC msA1 fun m2 msA2 =>
 gL m2 fun L =>
 gN msA2 <|
 bd (
 ifB (decide (Size < 1)) (
 some [.b true]) (
 ifB (decide ((16 : Int) < Size)) (
 some [.b true]) (
 ifB (decide (Next < 0)) (
 some [.b true]) (
 some [.b (decide ((100000 : Int) < Next))])))) fun vs =>
 gC vs fun m3 msA3 =>
 gB m3 fun x =>
 gN msA3 <|
 ifB x (
 some (.b false)) (
 bd (Loop (fun msA4 =>
 gC msA4 fun m4 msA5 =>
 gI .i64 m4 fun x1 =>
 gN msA5 <|
 lenN L fun len =>
 ifB (decide (x1 < (len : Int))) (
 idx L x1 fun y =>
 gA y fun cs1 =>
 gC cs1 fun m5 msA6 =>
 gI .i64 m5 fun Slot =>
 gC msA6 fun m6 msA7 =>
 gS m6 fun Value =>
 gN msA7 <|
 bd (
 ifB (decide (Slot < Next)) (
 some [.b true]) (
 ifB (decide ((IntKind.wrap .i64 (Next + Size)) ≤ Slot)) (
 some [.b true]) (
 ifB (decide ((100000 : Int) ≤ Slot)) (
 some [.b true]) (
 ifB (decide ((6000 : Int) < (Value.length : Int))) (
 some [.b true]) (
 ifB (decide ((0 : Int) < x1)) (
 idx L (IntKind.wrap .i64 (x1 - 1)) fun y1 =>
 gA y1 fun cs2 =>
 gC cs2 fun m7 msA8 =>
 gI .i64 m7 fun Slot1 =>
 gC msA8 fun m8 msA9 =>
 gS m8 fun Value1 =>
 gN msA9 <|
 some [.b (decide (Slot ≤ Slot1))]) (
 some [.b false])))))) fun vs1 =>
 gC vs1 fun m9 msA10 =>
 gB m9 fun x2 =>
 gN msA10 <|
 ifB x2 (
 some (.inr (1, [.b false]))) (
 some (.inl [.i .i64 (IntKind.wrap .i64 (x1 + 1))]))) (
 some (.inr (2, [])))) [.i .i64 0]) fun p =>
 ifB (Nat.beq p.1 2) (
 gN p.2 <|
 some (.b true)) (
 chk (Nat.beq p.1 1) <|
 gC p.2 fun m10 msA11 =>
 gB m10 fun x3 =>
 gN msA11 <|
 some (.b x3)))
theorem linkR25Right (a : MV) : bodyK cxR25Right [] none Try.f20 [a] = dR25Right a := by kernel_rfl
noncomputable def gR25Right : Nat → List MV → Option MV := addG 20 (lst1 dR25Right) gL25Alive
theorem soundR25Right : SoundG Try.prog cx gR25Right :=
  soundL25Alive.fn (c' := cxR25Right) (caps := []) ⟨rfl, rfl, rfl, rfl, rfl⟩ rfl tab_ok eq_ok mix_ok Try.func20 (by kernel_rfl) (fun _ => rfl) (lst1_of linkR25Right)

noncomputable def cxL25Plain : Ctx := ⟨lookT tiTab, kk, gR25Right, gv, frs, lookN ftyOf, 36, [32], lookL [(5, [0, 1, 2, 3, 4, 5, 6, 7, 8, 9, 10, 11, 12, 13, 14, 15, 16, 17, 18])], lookH [], lookH [], lookH [(3, ⟨[1, 2], [], [(3, .box [.k (.i .i64), .k (.i .i64), .own 33 131 true]), (4, .sc (.k (.i .i64)))], [(2, [(3, .box [.k (.i .i64), .k (.i .i64), .own 33 131 true])])], [32, 33]⟩)]⟩
noncomputable def dL25Plain (w : MV) : Option MV :=
 gA w fun cs =>
 gC cs fun m msA =>
 gI .i64 m fun Size =>
 gC msA fun m1 msA1 =>
 gI .i64 m1 fun Next =>
 gC msA1 fun m2 msA2 =>
 gL m2 fun L =>
 gN msA2 <|
 bd (Loop (fun msA3 =>
 gC msA3 fun m3 msA4 =>
 gI .i64 m3 fun out =>
 gC msA4 fun m4 msA5 =>
 gI .i64 m4 fun out1 =>
 gC msA5 fun m5 msA6 =>
 gL m5 fun out2 =>
 gC msA6 fun m6 msA7 =>
 gI .i64 m6 fun i =>
 gN msA7 <|
 lenN L fun len =>
 ifB (decide (i < (len : Int))) (
 idx L i fun y =>
 gA y fun cs1 =>
 gC cs1 fun m7 msA8 =>
 gI .i64 m7 fun Slot =>
 gC msA8 fun m8 msA9 =>
 gS m8 fun Value =>
 gN msA9 <|
 idx L i fun y1 =>
 gA y1 fun cs2 =>
 gC cs2 fun m9 msA10 =>
 gI .i64 m9 fun Slot1 =>
 gC msA10 fun m10 msA11 =>
 gS m10 fun Value1 =>
 gN msA11 <|
 lenN out2 fun len1 =>
 lenN ([.agg [.i .i64 Slot, .s Value1]] : List MV) fun len2 =>
 chk (decide ((len1 + len2) * 24 ≤ 2 ^ 46)) <|
 some (.inl [.i .i64 out, .i .i64 out1, .list (out2 ++ ([.agg [.i .i64 Slot, .s Value1]] : List MV)), .i .i64 (IntKind.wrap .i64 (i + 1))])) (
 some (.inr (2, [.i .i64 out, .i .i64 out1, .list out2])))) [.i .i64 Size, .i .i64 Next, .list ([] : List MV), .i .i64 0]) fun p =>
 chk (Nat.beq p.1 2) <|
 gC p.2 fun m11 msA12 =>
 gI .i64 m11 fun out3 =>
 gC msA12 fun m12 msA13 =>
 gI .i64 m12 fun out4 =>
 gC msA13 fun m13 msA14 =>
 gL m13 fun out5 =>
 gN msA14 <|
 some (.agg [.i .i64 out3, .i .i64 out4, .list out5])
theorem linkL25Plain (w : MV) : bodyK cxL25Plain [] none Try.f21 [w] = dL25Plain w := by kernel_rfl
noncomputable def gL25Plain : Nat → List MV → Option MV := addG 21 (lst1 dL25Plain) gR25Right
theorem soundL25Plain : SoundG Try.prog cx gL25Plain :=
  soundR25Right.fn (c' := cxL25Plain) (caps := []) ⟨rfl, rfl, rfl, rfl, rfl⟩ rfl tab_ok eq_ok mix_ok Try.func21 (by kernel_rfl) (fun _ => rfl) (lst1_of linkL25Plain)

noncomputable def cxL25WindowOrders : Ctx := ⟨lookT tiTab, kk, gL25Plain, gv, frs, lookN ftyOf, 168, [88], lookL [(16, [0, 1, 2, 3, 4, 5, 6, 7, 8, 9, 10, 11]), (34, [0, 1, 2, 3, 4, 5, 6, 7, 8, 9, 10, 11, 12, 13, 14, 15, 16, 17, 18, 19, 20, 21, 22])], lookH [(34, ⟨[7, 8, 17, 19], [33, 34], [], [(0, [(18, .sc (.k .b))])], [33, 34, 88]⟩), (25, ⟨[0, 1, 5, 7, 8, 9], [33, 34], [], [(0, [(130, .sc (.k .b))])], [33, 34, 88]⟩), (18, ⟨[0, 1, 5, 7, 8, 9, 10, 11, 13, 14], [33, 34], [], [(0, [(81, .sc (.k .b))])], [33, 34, 88]⟩), (16, ⟨[0, 1, 5, 7, 8, 9, 10, 12], [33, 34], [], [(0, [(11, .sc (.k .b))])], [33, 34, 88]⟩), (2, ⟨[0, 1, 5, 6], [], [], [(0, [(31, .sc (.k .b))])], [33, 34, 88]⟩)], lookH [(22, ⟨[0, 1, 7, 9], [33], [], [(0, [(5, .box [.k (.i .i64), .k (.i .i64), .k .l]), (8, .sc (.own 34 9 true))])], [33, 34, 88]⟩), (19, ⟨[0, 1, 5, 8, 9, 10, 13], [34], [], [(0, [(7, .sc (.own 33 34 true))])], [33, 34, 88]⟩)], lookH [(32, ⟨[7, 8, 17], [33, 34], [(18, .sc (.k .b)), (19, .sc (.k (.i .i64)))], [(8, [(18, .sc (.k .b))])], [33, 34, 88]⟩), (28, ⟨[7, 8], [33, 34], [(17, .sc (.k (.i .i64)))], [(1, [(4, .sc (.k .b))]), (6, [])], [33, 34, 88]⟩), (14, ⟨[0, 1, 5, 7, 8, 9, 10], [33, 34], [(11, .sc (.k .b)), (12, .sc (.k (.i .i64)))], [(4, [(11, .sc (.k .b))])], [33, 34, 88]⟩), (7, ⟨[0, 1], [], [(5, .box [.k (.i .i64), .k (.i .i64), .k .l]), (7, .sc (.own 33 34 true)), (8, .sc (.own 34 9 true)), (9, .sc (.k (.i .i64)))], [(1, [(4, .sc (.k .b))]), (2, [(7, .sc (.own 33 34 true)), (8, .sc (.own 34 9 true))])], [33, 34, 88]⟩)]⟩
noncomputable def dL25WindowOrders (a a1 : MV) : Option MV :=
 gI .i64 a fun a2 =>
 gL a1 fun a1N1 =>
 bd (dWindowNew (.i .i64 a2)) fun rA =>
 gT rA fun vs =>
 gC vs fun m msA =>
 gA m fun cs =>
 gC cs fun m1 msA1 =>
 gI .i64 m1 fun Size =>
 gC msA1 fun m2 msA2 =>
 gI .i64 m2 fun Next =>
 gC msA2 fun m3 msA3 =>
 gL m3 fun L =>
 gN msA3 <|
 gC msA fun m4 msA4 =>
 gI .i64 m4 fun x =>
 gN msA4 <|
 bd (
 ifB (!decide (x = 0)) (
 some [.b true]) (
 lenN a1N1 fun len =>
 some [.b (decide ((100 : Int) < (len : Int)))])) fun vs1 =>
 gC vs1 fun m5 msA5 =>
 gB m5 fun x1 =>
 gN msA5 <|
 ifB x1 (
 bd (dL25Alive) fun rA1 =>
 gB rA1 fun x2 =>
 some (.b x2)) (
 bd (Loop (fun msA6 =>
 gC msA6 fun m6 msA7 =>
 gI .i64 m6 fun x3 =>
 gC msA7 fun m7 msA8 =>
 gI .i64 m7 fun x4 =>
 gC msA8 fun m8 msA9 =>
 gL m8 fun x5 =>
 gC msA9 fun m9 msA10 =>
 gL m9 fun xs =>
 gC msA10 fun m10 msA11 =>
 gL m10 fun xs1 =>
 gC msA11 fun m11 msA12 =>
 gI .i64 m11 fun x6 =>
 gN msA12 <|
 lenN a1N1 fun len1 =>
 ifB (decide (x6 < (len1 : Int))) (
 idx a1N1 x6 fun y =>
 gA y fun cs1 =>
 gC cs1 fun m12 msA13 =>
 gI .i64 m12 fun Slot =>
 gC msA13 fun m13 msA14 =>
 gS m13 fun Value =>
 gC msA14 fun m14 msA15 =>
 gB m14 fun Take =>
 gN msA15 <|
 ifB (decide ((6100 : Int) < (Value.length : Int))) (
 bd (dL25Alive) fun rA2 =>
 gB rA2 fun x7 =>
 some (.inr (1, [.b x7]))) (
 bd (Loop (fun msA16 =>
 gC msA16 fun m15 msA17 =>
 gB m15 fun x8 =>
 gC msA17 fun m16 msA18 =>
 gI .i64 m16 fun x9 =>
 gN msA18 <|
 lenN xs fun len2 =>
 ifB (decide (x9 < (len2 : Int))) (
 bd (
 ifB x8 (
 some [.b true]) (
 idx xs x9 fun y1 =>
 gA y1 fun cs2 =>
 gC cs2 fun m17 msA19 =>
 gI .i64 m17 fun Slot1 =>
 gC msA19 fun m18 msA20 =>
 gS m18 fun Value1 =>
 gN msA20 <|
 some [.b (decide (Slot1 = Slot))])) fun vs2 =>
 gC vs2 fun m19 msA21 =>
 gB m19 fun x10 =>
 gN msA21 <|
 some (.inl [.b x10, .i .i64 (IntKind.wrap .i64 (x9 + 1))])) (
 some (.inr (4, [.b x8])))) [.b false, .i .i64 0]) fun p1 =>
 chk (Nat.beq p1.1 4) <|
 gC p1.2 fun m20 msA22 =>
 gB m20 fun x11 =>
 gN msA22 <|
 bd (dWindowLearn (.agg [.i .i64 x3, .i .i64 x4, .list x5]) (.i .i64 Slot) (.s Value)) fun rA3 =>
 gT rA3 fun vs3 =>
 gC vs3 fun m21 msA23 =>
 gA m21 fun cs3 =>
 gC cs3 fun m22 msA24 =>
 gI .i64 m22 fun Size1 =>
 gC msA24 fun m23 msA25 =>
 gI .i64 m23 fun Next1 =>
 gC msA25 fun m24 msA26 =>
 gL m24 fun L1 =>
 gN msA26 <|
 gC msA23 fun m25 msA27 =>
 gI .i64 m25 fun x12 =>
 gN msA27 <|
 bd (
 ifB (decide (x12 = 0)) (
 some [.b (!x11)]) (
 some [.b false])) fun vs4 =>
 gC vs4 fun m26 msA28 =>
 gB m26 fun x13 =>
 gN msA28 <|
 bd (
 ifB x13 (
 lenN xs fun len3 =>
 lenN ([.agg [.i .i64 Slot, .s Value]] : List MV) fun len4 =>
 chk (decide ((len3 + len4) * 24 ≤ 2 ^ 46)) <|
 some (0, [.list (xs ++ ([.agg [.i .i64 Slot, .s Value]] : List MV))])) (
 some (0, [.list xs]))) fun p2 =>
 chk (Nat.beq p2.1 0) <|
 gC p2.2 fun m27 msA29 =>
 gL m27 fun xs2 =>
 gN msA29 <|
 bd (
 ifB Take (
 bd (dWindowTake (.agg [.i .i64 Size1, .i .i64 Next1, .list L1])) fun rA4 =>
 gT rA4 fun vs5 =>
 gC vs5 fun m28 msA30 =>
 gA m28 fun cs4 =>
 gC cs4 fun m29 msA31 =>
 gI .i64 m29 fun Size2 =>
 gC msA31 fun m30 msA32 =>
 gI .i64 m30 fun Next2 =>
 gC msA32 fun m31 msA33 =>
 gL m31 fun L2 =>
 gN msA33 <|
 gC msA30 fun m32 msA34 =>
 gL m32 fun x14 =>
 gN msA34 <|
 chk (wids 1 x14) <|
 lenN xs1 fun len5 =>
 lenN x14 fun len6 =>
 chk (decide ((len5 + len6) * 16 ≤ 2 ^ 46)) <|
 some (0, [.i .i64 Size2, .i .i64 Next2, .list L2, .list (xs1 ++ x14)])) (
 some (0, [.i .i64 Size1, .i .i64 Next1, .list L1, .list xs1]))) fun p3 =>
 chk (Nat.beq p3.1 0) <|
 gC p3.2 fun m33 msA35 =>
 gI .i64 m33 fun x15 =>
 gC msA35 fun m34 msA36 =>
 gI .i64 m34 fun x16 =>
 gC msA36 fun m35 msA37 =>
 gL m35 fun x17 =>
 gC msA37 fun m36 msA38 =>
 gL m36 fun xs3 =>
 gN msA38 <|
 bd (
 bd (dL25Plain (.agg [.i .i64 x15, .i .i64 x16, .list x17])) fun rA5 =>
 gA rA5 fun cs5 =>
 gC cs5 fun m37 msA39 =>
 gI .i64 m37 fun Size3 =>
 gC msA39 fun m38 msA40 =>
 gI .i64 m38 fun Next3 =>
 gC msA40 fun m39 msA41 =>
 gL m39 fun L3 =>
 gN msA41 <|
 bd (dR25Right (.agg [.i .i64 Size3, .i .i64 Next3, .list L3])) fun rA6 =>
 gB rA6 fun x18 =>
 ifB (!x18) (
 some [.b true]) (
 lenN xs3 fun len7 =>
 ifB (!decide (x16 = (len7 : Int))) (
 some [.b true]) (
 lenN x17 fun len8 =>
 ifB (decide (a2 < (len8 : Int))) (
 some [.b true]) (
 lenN x17 fun len9 =>
 lenN xs3 fun len10 =>
 lenN xs2 fun len11 =>
 some [.b (!decide ((IntKind.wrap .i64 ((len9 : Int) + (len10 : Int))) = (len11 : Int)))])))) fun vs6 =>
 gC vs6 fun m40 msA42 =>
 gB m40 fun x19 =>
 gN msA42 <|
 ifB x19 (
 some (.inr (1, [.b false]))) (
 some (.inl [.i .i64 x15, .i .i64 x16, .list x17, .list xs2, .list xs3, .i .i64 (IntKind.wrap .i64 (x6 + 1))])))) (
 some (.inr (2, [.list xs, .list xs1])))) [.i .i64 Size, .i .i64 Next, .list L, .list ([] : List MV), .list ([] : List MV), .i .i64 0]) fun p =>
 ifB (Nat.beq p.1 2) (
 gC p.2 fun m41 msA43 =>
 gL m41 fun xs4 =>
 gC msA43 fun m42 msA44 =>
 gL m42 fun xs5 =>
 gN msA44 <|
 bd (Loop (fun msA45 =>
 gC msA45 fun m43 msA46 =>
 gI .i64 m43 fun x20 =>
 gN msA46 <|
 lenN xs5 fun len12 =>
 ifB (decide (x20 < (len12 : Int))) (
 bd (Loop (fun msA47 =>
 gC msA47 fun m44 msA48 =>
 gB m44 fun x21 =>
 gC msA48 fun m45 msA49 =>
 gI .i64 m45 fun x22 =>
 gN msA49 <|
 lenN xs4 fun len13 =>
 ifB (decide (x22 < (len13 : Int))) (
 bd (
 ifB x21 (
 some [.b true]) (
 idx xs4 x22 fun y2 =>
 gA y2 fun cs6 =>
 gC cs6 fun m46 msA50 =>
 gI .i64 m46 fun Slot2 =>
 gC msA50 fun m47 msA51 =>
 gS m47 fun Value2 =>
 gN msA51 <|
 ifB (decide (Slot2 = x20)) (
 idx xs4 x22 fun y3 =>
 gA y3 fun cs7 =>
 gC cs7 fun m48 msA52 =>
 gI .i64 m48 fun Slot3 =>
 gC msA52 fun m49 msA53 =>
 gS m49 fun Value3 =>
 gN msA53 <|
 idx xs5 x20 fun y4 =>
 gS y4 fun x23 =>
 some [.b (decide (Value3 = x23))]) (
 some [.b false]))) fun vs7 =>
 gC vs7 fun m50 msA54 =>
 gB m50 fun x24 =>
 gN msA54 <|
 some (.inl [.b x24, .i .i64 (IntKind.wrap .i64 (x22 + 1))])) (
 some (.inr (8, [.b x21])))) [.b false, .i .i64 0]) fun p7 =>
 chk (Nat.beq p7.1 8) <|
 gC p7.2 fun m51 msA55 =>
 gB m51 fun x25 =>
 gN msA55 <|
 ifB (!x25) (
 some (.inr (1, [.b false]))) (
 some (.inl [.i .i64 (IntKind.wrap .i64 (x20 + 1))]))) (
 some (.inr (6, [])))) [.i .i64 0]) fun p6 =>
 ifB (Nat.beq p6.1 6) (
 gN p6.2 <|
 bd (dL25Alive) fun rA7 =>
 gB rA7 fun x26 =>
 some (.b x26)) (
 chk (Nat.beq p6.1 1) <|
 gC p6.2 fun m52 msA56 =>
 gB m52 fun x27 =>
 gN msA56 <|
 some (.b x27))) (
 chk (Nat.beq p.1 1) <|
 gC p.2 fun m53 msA57 =>
 gB m53 fun x28 =>
 gN msA57 <|
 some (.b x28)))
theorem linkL25WindowOrders (a a1 : MV) : bodyK cxL25WindowOrders [] none Try.f3 [a, a1] = dL25WindowOrders a a1 := by kernel_rfl
noncomputable def gL25WindowOrders : Nat → List MV → Option MV := addG 3 (lst2 dL25WindowOrders) gL25Plain
theorem soundL25WindowOrders : SoundG Try.prog cx gL25WindowOrders :=
  soundL25Plain.fn (c' := cxL25WindowOrders) (caps := []) ⟨rfl, rfl, rfl, rfl, rfl⟩ rfl tab_ok eq_ok mix_ok Try.func3 (by kernel_rfl) (fun _ => rfl) (lst2_of linkL25WindowOrders)

noncomputable def cxL25Few : Ctx := ⟨lookT tiTab, kk, gL25WindowOrders, gv, frs, lookN ftyOf, 23, [], lookL [], lookH [(4, ⟨[1, 3], [], [], [(0, [(22, .sc (.k .b))])], []⟩)], lookH [], lookH [(2, ⟨[1], [], [(3, .sc (.k (.i .i64)))], [(1, [(2, .sc (.k .b))]), (2, [])], []⟩)]⟩
noncomputable def dL25Few (w : MV) : Option MV :=
 gA w fun cs =>
 gC cs fun m msA =>
 gI .i64 m fun Size =>
 gC msA fun m1 msA1 =>
 gI .i64 m1 fun Next =>
 gC msA1 fun m2 msA2 =>
 gL m2 fun L =>
 gN msA2 <|
 bd (Loop (fun msA3 =>
 gC msA3 fun m3 msA4 =>
 gI .i64 m3 fun i =>
 gN msA4 <|
 lenN L fun len =>
 ifB (decide (i < (len : Int))) (
 bd (
 ifB (decide (i = 40)) (
 some [.b true]) (
 idx L i fun y =>
 gA y fun cs1 =>
 gC cs1 fun m4 msA5 =>
 gI .i64 m4 fun Slot =>
 gC msA5 fun m5 msA6 =>
 gS m5 fun Value =>
 gN msA6 <|
 some [.b (decide ((6100 : Int) < (Value.length : Int)))])) fun vs =>
 gC vs fun m6 msA7 =>
 gB m6 fun x =>
 gN msA7 <|
 ifB x (
 some (.inr (1, [.b false]))) (
 some (.inl [.i .i64 (IntKind.wrap .i64 (i + 1))]))) (
 some (.inr (2, [])))) [.i .i64 0]) fun p =>
 ifB (Nat.beq p.1 2) (
 gN p.2 <|
 some (.b true)) (
 chk (Nat.beq p.1 1) <|
 gC p.2 fun m7 msA8 =>
 gB m7 fun x1 =>
 gN msA8 <|
 some (.b x1))
theorem linkL25Few (w : MV) : bodyK cxL25Few [] none Try.f36 [w] = dL25Few w := by kernel_rfl
noncomputable def gL25Few : Nat → List MV → Option MV := addG 36 (lst1 dL25Few) gL25WindowOrders
theorem soundL25Few : SoundG Try.prog cx gL25Few :=
  soundL25WindowOrders.fn (c' := cxL25Few) (caps := []) ⟨rfl, rfl, rfl, rfl, rfl⟩ rfl tab_ok eq_ok mix_ok Try.func36 (by kernel_rfl) (fun _ => rfl) (lst1_of linkL25Few)

noncomputable def cxR25Has : Ctx := ⟨lookT tiTab, kk, gL25Few, gv, frs, lookN ftyOf, 28, [], lookL [], lookH [], lookH [], lookH [(2, ⟨[1, 2], [], [(6, .sc (.k (.i .i64)))], [(1, [(4, .sc (.k .s)), (5, .sc (.k .b))]), (2, [])], []⟩)]⟩
noncomputable def dR25Has (w slot : MV) : Option MV :=
 gA w fun cs =>
 gC cs fun m msA =>
 gI .i64 m fun Size =>
 gC msA fun m1 msA1 =>
 gI .i64 m1 fun Next =>
 gC msA1 fun m2 msA2 =>
 gL m2 fun L =>
 gN msA2 <|
 gI .i64 slot fun slot1 =>
 bd (Loop (fun msA3 =>
 gC msA3 fun m3 msA4 =>
 gI .i64 m3 fun i =>
 gN msA4 <|
 lenN L fun len =>
 ifB (decide (i < (len : Int))) (
 idx L i fun y =>
 gA y fun cs1 =>
 gC cs1 fun m4 msA5 =>
 gI .i64 m4 fun Slot =>
 gC msA5 fun m5 msA6 =>
 gS m5 fun Value =>
 gN msA6 <|
 ifB (decide (Slot = slot1)) (
 idx L i fun y1 =>
 gA y1 fun cs2 =>
 gC cs2 fun m6 msA7 =>
 gI .i64 m6 fun Slot1 =>
 gC msA7 fun m7 msA8 =>
 gS m7 fun Value1 =>
 gN msA8 <|
 some (.inr (1, [.s Value1, .b true]))) (
 some (.inl [.i .i64 (IntKind.wrap .i64 (i + 1))]))) (
 some (.inr (2, [])))) [.i .i64 0]) fun p =>
 ifB (Nat.beq p.1 2) (
 gN p.2 <|
 some (.tup [.s ([] : List UInt8), .b false])) (
 chk (Nat.beq p.1 1) <|
 gC p.2 fun m8 msA9 =>
 gS m8 fun x =>
 gC msA9 fun m9 msA10 =>
 gB m9 fun x1 =>
 gN msA10 <|
 some (.tup [.s x, .b x1]))
theorem linkR25Has (w slot : MV) : bodyK cxR25Has [] none Try.f77 [w, slot] = dR25Has w slot := by kernel_rfl
noncomputable def gR25Has : Nat → List MV → Option MV := addG 77 (lst2 dR25Has) gL25Few
theorem soundR25Has : SoundG Try.prog cx gR25Has :=
  soundL25Few.fn (c' := cxR25Has) (caps := []) ⟨rfl, rfl, rfl, rfl, rfl⟩ rfl tab_ok eq_ok mix_ok Try.func77 (by kernel_rfl) (fun _ => rfl) (lst2_of linkR25Has)

noncomputable def cxR25Learn : Ctx := ⟨lookT tiTab, kk, gR25Has, gv, frs, lookN ftyOf, 90, [73, 82], lookL [], lookH [(8, ⟨[1, 2, 3, 6, 8, 9], [], [], [(0, [(46, .sc (.k .b))])], [50, 73, 82]⟩), (3, ⟨[1, 2, 3, 6], [], [], [(0, [(29, .sc (.k .b))])], [50, 73, 82]⟩)], lookH [(20, ⟨[1, 2, 3, 6, 11], [], [], [(0, [(10, .sc (.own 50 131 true))])], [50, 73, 82]⟩), (18, ⟨[1, 2, 3, 6, 11, 12], [], [], [(0, [(10, .sc (.own 50 131 true))])], [50, 73, 82]⟩)], lookH [(14, ⟨[1, 2, 3, 6], [], [(10, .sc (.own 50 131 true)), (11, .sc (.k (.i .i64)))], [(2, [(10, .sc (.own 50 131 true))])], [50, 73, 82]⟩)]⟩
noncomputable def dR25Learn (a a1 a2 : MV) : Option MV :=
 gA a fun cs =>
 gC cs fun m msA =>
 gI .i64 m fun Size =>
 gC msA fun m1 msA1 =>
 gI .i64 m1 fun Next =>
 gC msA1 fun m2 msA2 =>
 gL m2 fun L =>
 gN msA2 <|
 gI .i64 a1 fun a1N1 =>
 gS a2 fun a2N1 =>
 ifB (decide (a1N1 < Next)) (
 some (.tup [.agg [.i .i64 Size, .i .i64 Next, .list L], .i .i64 15])) (
 bd (
 ifB (decide ((IntKind.wrap .i64 (Next + Size)) ≤ a1N1)) (
 some [.b true]) (
 some [.b (decide ((100000 : Int) ≤ a1N1))])) fun vs =>
 gC vs fun m3 msA3 =>
 gB m3 fun x =>
 gN msA3 <|
 ifB x (
 some (.tup [.agg [.i .i64 Size, .i .i64 Next, .list L], .i .i64 9])) (
 ifB (decide ((6000 : Int) < (a2N1.length : Int))) (
 some (.tup [.agg [.i .i64 Size, .i .i64 Next, .list L], .i .i64 5])) (
 bd (dR25Has (.agg [.i .i64 Size, .i .i64 Next, .list L]) (.i .i64 a1N1)) fun rA =>
 gT rA fun vs1 =>
 gC vs1 fun m4 msA4 =>
 gS m4 fun x1 =>
 gC msA4 fun m5 msA5 =>
 gB m5 fun x2 =>
 gN msA5 <|
 bd (
 ifB x2 (
 some [.b (decide (x1 = a2N1))]) (
 some [.b false])) fun vs2 =>
 gC vs2 fun m6 msA6 =>
 gB m6 fun x3 =>
 gN msA6 <|
 ifB x3 (
 some (.tup [.agg [.i .i64 Size, .i .i64 Next, .list L], .i .i64 0])) (
 ifB x2 (
 some (.tup [.agg [.i .i64 Size, .i .i64 Next, .list L], .i .i64 7])) (
 bd (Loop (fun msA7 =>
 gC msA7 fun m7 msA8 =>
 gL m7 fun xs =>
 gC msA8 fun m8 msA9 =>
 gI .i64 m8 fun x4 =>
 gN msA9 <|
 ifB (decide (x4 < (IntKind.wrap .i64 (Next + Size)))) (
 bd (dR25Has (.agg [.i .i64 Size, .i .i64 Next, .list L]) (.i .i64 x4)) fun rA1 =>
 gT rA1 fun vs3 =>
 gC vs3 fun m9 msA10 =>
 gS m9 fun x5 =>
 gC msA10 fun m10 msA11 =>
 gB m10 fun x6 =>
 gN msA11 <|
 bd (
 ifB x6 (
 lenN xs fun len =>
 lenN ([.agg [.i .i64 x4, .s x5]] : List MV) fun len1 =>
 chk (decide ((len + len1) * 24 ≤ 2 ^ 46)) <|
 some (0, [.list (xs ++ ([.agg [.i .i64 x4, .s x5]] : List MV))])) (
 some (0, [.list xs]))) fun p1 =>
 chk (Nat.beq p1.1 0) <|
 gC p1.2 fun m11 msA12 =>
 gL m11 fun xs1 =>
 gN msA12 <|
 bd (
 ifB (decide (x4 = a1N1)) (
 lenN xs1 fun len2 =>
 lenN ([.agg [.i .i64 x4, .s a2N1]] : List MV) fun len3 =>
 chk (decide ((len2 + len3) * 24 ≤ 2 ^ 46)) <|
 some (0, [.list (xs1 ++ ([.agg [.i .i64 x4, .s a2N1]] : List MV))])) (
 some (0, [.list xs1]))) fun p2 =>
 chk (Nat.beq p2.1 0) <|
 gC p2.2 fun m12 msA13 =>
 gL m12 fun xs2 =>
 gN msA13 <|
 some (.inl [.list xs2, .i .i64 (IntKind.wrap .i64 (x4 + 1))])) (
 some (.inr (2, [.list xs])))) [.list ([] : List MV), .i .i64 Next]) fun p =>
 chk (Nat.beq p.1 2) <|
 gC p.2 fun m13 msA14 =>
 gL m13 fun xs3 =>
 gN msA14 <|
 some (.tup [.agg [.i .i64 Size, .i .i64 Next, .list xs3], .i .i64 0]))))))
theorem linkR25Learn (a a1 a2 : MV) : bodyK cxR25Learn [] none Try.f37 [a, a1, a2] = dR25Learn a a1 a2 := by kernel_rfl
noncomputable def gR25Learn : Nat → List MV → Option MV := addG 37 (lst3 dR25Learn) gR25Has
theorem soundR25Learn : SoundG Try.prog cx gR25Learn :=
  soundR25Has.fn (c' := cxR25Learn) (caps := []) ⟨rfl, rfl, rfl, rfl, rfl⟩ rfl tab_ok eq_ok mix_ok Try.func37 (by kernel_rfl) (fun _ => rfl) (lst3_of linkR25Learn)

noncomputable def cxR25Take : Ctx := ⟨lookT tiTab, kk, gR25Learn, gv, frs, lookN ftyOf, 57, [23, 49], lookL [], lookH [], lookH [(12, ⟨[1, 2, 4, 5, 9], [10], [], [(0, [(8, .sc (.own 27 131 true))])], [10, 23, 27, 49]⟩)], lookH [(9, ⟨[1, 2, 4, 5], [10], [(8, .sc (.own 27 131 true)), (9, .sc (.k (.i .i64)))], [(4, [(8, .sc (.own 27 131 true))])], [10, 23, 27, 49]⟩), (3, ⟨[1, 2], [], [(4, .sc (.own 10 9 true)), (5, .sc (.k (.i .i64)))], [(2, [(4, .sc (.own 10 9 true)), (5, .sc (.k (.i .i64)))])], [10, 23, 27, 49]⟩)]⟩
noncomputable def dR25Take (w : MV) : Option MV :=
 gA w fun cs =>
 gC cs fun m msA =>
 gI .i64 m fun Size =>
 gC msA fun m1 msA1 =>
 gI .i64 m1 fun Next =>
 gC msA1 fun m2 msA2 =>
 gL m2 fun L =>
 gN msA2 <|
 bd (Loop (fun msA3 =>
 gC msA3 fun m3 msA4 =>
 gL m3 fun out =>
 gC msA4 fun m4 msA5 =>
 gI .i64 m4 fun n =>
 gN msA5 <|
 bd (dR25Has (.agg [.i .i64 Size, .i .i64 Next, .list L]) (.i .i64 n)) fun rA =>
 gT rA fun vs =>
 gC vs fun m5 msA6 =>
 gS m5 fun x =>
 gC msA6 fun m6 msA7 =>
 gB m6 fun x1 =>
 gN msA7 <|
 ifB (!x1) (
 some (.inr (2, [.list out, .i .i64 n]))) (
 lenN out fun len =>
 lenN ([.s x] : List MV) fun len1 =>
 chk (decide ((len + len1) * 16 ≤ 2 ^ 46)) <|
 some (.inl [.list (out ++ ([.s x] : List MV)), .i .i64 (IntKind.wrap .i64 (n + 1))]))) [.list ([] : List MV), .i .i64 Next]) fun p =>
 chk (Nat.beq p.1 2) <|
 gC p.2 fun m7 msA8 =>
 gL m7 fun out1 =>
 gC msA8 fun m8 msA9 =>
 gI .i64 m8 fun n1 =>
 gN msA9 <|
 bd (Loop (fun msA10 =>
 gC msA10 fun m9 msA11 =>
 gL m9 fun lA =>
 gC msA11 fun m10 msA12 =>
 gI .i64 m10 fun i =>
 gN msA12 <|
 lenN L fun len2 =>
 ifB (decide (i < (len2 : Int))) (
 idx L i fun y =>
 gA y fun cs1 =>
 gC cs1 fun m11 msA13 =>
 gI .i64 m11 fun Slot =>
 gC msA13 fun m12 msA14 =>
 gS m12 fun Value =>
 gN msA14 <|
 bd (
 ifB (decide (n1 ≤ Slot)) (
 idx L i fun y1 =>
 gA y1 fun cs2 =>
 gC cs2 fun m13 msA15 =>
 gI .i64 m13 fun Slot1 =>
 gC msA15 fun m14 msA16 =>
 gS m14 fun Value1 =>
 gN msA16 <|
 lenN lA fun len3 =>
 lenN ([.agg [.i .i64 Slot1, .s Value1]] : List MV) fun len4 =>
 chk (decide ((len3 + len4) * 24 ≤ 2 ^ 46)) <|
 some (0, [.list (lA ++ ([.agg [.i .i64 Slot1, .s Value1]] : List MV))])) (
 some (0, [.list lA]))) fun p2 =>
 chk (Nat.beq p2.1 0) <|
 gC p2.2 fun m15 msA17 =>
 gL m15 fun lA1 =>
 gN msA17 <|
 some (.inl [.list lA1, .i .i64 (IntKind.wrap .i64 (i + 1))])) (
 some (.inr (4, [.list lA])))) [.list ([] : List MV), .i .i64 0]) fun p1 =>
 chk (Nat.beq p1.1 4) <|
 gC p1.2 fun m16 msA18 =>
 gL m16 fun lA2 =>
 gN msA18 <|
 some (.tup [.agg [.i .i64 Size, .i .i64 n1, .list lA2], .list out1])
theorem linkR25Take (w : MV) : bodyK cxR25Take [] none Try.f38 [w] = dR25Take w := by kernel_rfl
noncomputable def gR25Take : Nat → List MV → Option MV := addG 38 (lst1 dR25Take) gR25Learn
theorem soundR25Take : SoundG Try.prog cx gR25Take :=
  soundR25Learn.fn (c' := cxR25Take) (caps := []) ⟨rfl, rfl, rfl, rfl, rfl⟩ rfl tab_ok eq_ok mix_ok Try.func38 (by kernel_rfl) (fun _ => rfl) (lst1_of linkR25Take)

noncomputable def cxR25Same : Ctx := ⟨lookT tiTab, kk, gR25Take, gv, frs, lookN ftyOf, 45, [], lookL [(6, [0, 1, 2, 3, 4, 5, 6, 7, 8, 9, 10])], lookH [(1, ⟨[2, 3], [], [], [(0, [(26, .sc (.k .b))])], []⟩)], lookH [], lookH [(4, ⟨[2, 3], [], [(5, .sc (.k (.i .i64)))], [(1, [(4, .sc (.k .b))]), (2, [])], []⟩)]⟩
noncomputable def dR25Same (a b : MV) : Option MV :=
 gA a fun cs =>
 gC cs fun m msA =>
 gI .i64 m fun Size =>
 gC msA fun m1 msA1 =>
 gI .i64 m1 fun Next =>
 gC msA1 fun m2 msA2 =>
 gL m2 fun L =>
 gN msA2 <|
 gA b fun cs1 =>
 gC cs1 fun m3 msA3 =>
 gI .i64 m3 fun Size1 =>
 gC msA3 fun m4 msA4 =>
 gI .i64 m4 fun Next1 =>
 gC msA4 fun m5 msA5 =>
 gL m5 fun L1 =>
 gN msA5 <|
 bd (
 ifB (!decide (Size = Size1)) (
 some [.b true]) (
 ifB (!decide (Next = Next1)) (
 some [.b true]) (
 lenN L fun len =>
 lenN L1 fun len1 =>
 some [.b (!decide ((len : Int) = (len1 : Int)))]))) fun vs =>
 gC vs fun m6 msA6 =>
 gB m6 fun x =>
 gN msA6 <|
 ifB x (
 some (.b false)) (
 bd (Loop (fun msA7 =>
 gC msA7 fun m7 msA8 =>
 gI .i64 m7 fun i =>
 gN msA8 <|
 lenN L fun len2 =>
 ifB (decide (i < (len2 : Int))) (
 idx L i fun y =>
 gA y fun cs2 =>
 gC cs2 fun m8 msA9 =>
 gI .i64 m8 fun Slot =>
 gC msA9 fun m9 msA10 =>
 gS m9 fun Value =>
 gN msA10 <|
 idx L1 i fun y1 =>
 gA y1 fun cs3 =>
 gC cs3 fun m10 msA11 =>
 gI .i64 m10 fun Slot1 =>
 gC msA11 fun m11 msA12 =>
 gS m11 fun Value1 =>
 gN msA12 <|
 ifB (!((decide (Slot = Slot1)) && (decide (Value = Value1)))) (
 some (.inr (1, [.b false]))) (
 some (.inl [.i .i64 (IntKind.wrap .i64 (i + 1))]))) (
 some (.inr (2, [])))) [.i .i64 0]) fun p =>
 ifB (Nat.beq p.1 2) (
 gN p.2 <|
 some (.b true)) (
 chk (Nat.beq p.1 1) <|
 gC p.2 fun m12 msA13 =>
 gB m12 fun x1 =>
 gN msA13 <|
 some (.b x1)))
theorem linkR25Same (a b : MV) : bodyK cxR25Same [] none Try.f39 [a, b] = dR25Same a b := by kernel_rfl
noncomputable def gR25Same : Nat → List MV → Option MV := addG 39 (lst2 dR25Same) gR25Take
theorem soundR25Same : SoundG Try.prog cx gR25Same :=
  soundR25Take.fn (c' := cxR25Same) (caps := []) ⟨rfl, rfl, rfl, rfl, rfl⟩ rfl tab_ok eq_ok mix_ok Try.func39 (by kernel_rfl) (fun _ => rfl) (lst2_of linkR25Same)

noncomputable def cxR01Strings : Ctx := ⟨lookT tiTab, kk, gR25Same, gv, frs, lookN ftyOf, 26, [], lookL [(6, [0, 1, 2, 3, 4, 5, 6, 7, 8])], lookH [], lookH [], lookH [(4, ⟨[0, 1], [], [(5, .sc (.k (.i .i64)))], [(1, [(4, .sc (.k .b))]), (2, [])], []⟩)]⟩
noncomputable def dR01Strings (a b : MV) : Option MV :=
 gL a fun a1 =>
 gL b fun b1 =>
 lenN a1 fun len =>
 lenN b1 fun len1 =>
 ifB (!decide ((len : Int) = (len1 : Int))) (
 some (.b false)) (
 bd (Loop (fun msA =>
 gC msA fun m msA1 =>
 gI .i64 m fun i =>
 gN msA1 <|
 lenN a1 fun len2 =>
 ifB (decide (i < (len2 : Int))) (
 idx a1 i fun y =>
 gS y fun x =>
 idx b1 i fun y1 =>
 gS y1 fun x1 =>
 ifB (!decide (x = x1)) (
 some (.inr (1, [.b false]))) (
 some (.inl [.i .i64 (IntKind.wrap .i64 (i + 1))]))) (
 some (.inr (2, [])))) [.i .i64 0]) fun p =>
 ifB (Nat.beq p.1 2) (
 gN p.2 <|
 some (.b true)) (
 chk (Nat.beq p.1 1) <|
 gC p.2 fun m1 msA2 =>
 gB m1 fun x2 =>
 gN msA2 <|
 some (.b x2)))
theorem linkR01Strings (a b : MV) : bodyK cxR01Strings [] none Try.f40 [a, b] = dR01Strings a b := by kernel_rfl
noncomputable def gR01Strings : Nat → List MV → Option MV := addG 40 (lst2 dR01Strings) gR25Same
theorem soundR01Strings : SoundG Try.prog cx gR01Strings :=
  soundR25Same.fn (c' := cxR01Strings) (caps := []) ⟨rfl, rfl, rfl, rfl, rfl⟩ rfl tab_ok eq_ok mix_ok Try.func40 (by kernel_rfl) (fun _ => rfl) (lst2_of linkR01Strings)

noncomputable def cxR01Ints : Ctx := ⟨lookT tiTab, kk, gR01Strings, gv, frs, lookN ftyOf, 26, [], lookL [(6, [0, 1, 2, 3, 4, 5, 6, 7, 8])], lookH [], lookH [], lookH [(4, ⟨[0, 1], [], [(5, .sc (.k (.i .i64)))], [(1, [(4, .sc (.k .b))]), (2, [])], []⟩)]⟩
noncomputable def dR01Ints (a b : MV) : Option MV :=
 gL a fun a1 =>
 gL b fun b1 =>
 lenN a1 fun len =>
 lenN b1 fun len1 =>
 ifB (!decide ((len : Int) = (len1 : Int))) (
 some (.b false)) (
 bd (Loop (fun msA =>
 gC msA fun m msA1 =>
 gI .i64 m fun i =>
 gN msA1 <|
 lenN a1 fun len2 =>
 ifB (decide (i < (len2 : Int))) (
 idx a1 i fun y =>
 gI .i64 y fun x =>
 idx b1 i fun y1 =>
 gI .i64 y1 fun x1 =>
 ifB (!decide (x = x1)) (
 some (.inr (1, [.b false]))) (
 some (.inl [.i .i64 (IntKind.wrap .i64 (i + 1))]))) (
 some (.inr (2, [])))) [.i .i64 0]) fun p =>
 ifB (Nat.beq p.1 2) (
 gN p.2 <|
 some (.b true)) (
 chk (Nat.beq p.1 1) <|
 gC p.2 fun m1 msA2 =>
 gB m1 fun x2 =>
 gN msA2 <|
 some (.b x2)))
theorem linkR01Ints (a b : MV) : bodyK cxR01Ints [] none Try.f41 [a, b] = dR01Ints a b := by kernel_rfl
noncomputable def gR01Ints : Nat → List MV → Option MV := addG 41 (lst2 dR01Ints) gR01Strings
theorem soundR01Ints : SoundG Try.prog cx gR01Ints :=
  soundR01Strings.fn (c' := cxR01Ints) (caps := []) ⟨rfl, rfl, rfl, rfl, rfl⟩ rfl tab_ok eq_ok mix_ok Try.func41 (by kernel_rfl) (fun _ => rfl) (lst2_of linkR01Ints)

noncomputable def cxWindowOpen : Ctx := ⟨lookT tiTab, kk, gR01Ints, gv, frs, lookN ftyOf, 28, [25], lookL [], lookH [], lookH [(7, ⟨[1, 4], [], [], [(0, [(3, .sc (.own 26 3 true))])], [25, 26]⟩)], lookH [(3, ⟨[1], [], [(3, .sc (.own 26 3 true)), (4, .sc (.k (.i .i64)))], [(2, [(3, .sc (.own 26 3 true))])], [25, 26]⟩)]⟩
noncomputable def dWindowOpen (w : MV) : Option MV :=
 gA w fun cs =>
 gC cs fun m msA =>
 gI .i64 m fun Size =>
 gC msA fun m1 msA1 =>
 gI .i64 m1 fun Next =>
 gC msA1 fun m2 msA2 =>
 gL m2 fun L =>
 gN msA2 <|
 bd (Loop (fun msA3 =>
 gC msA3 fun m3 msA4 =>
 gL m3 fun out =>
 gC msA4 fun m4 msA5 =>
 gI .i64 m4 fun sA =>
 gN msA5 <|
 bd (dWindowWindowEnd (.agg [.i .i64 Size, .i .i64 Next, .list L])) fun rA =>
 gI .i64 rA fun x =>
 ifB (decide (sA < x)) (
 bd (dWindowWindowPlace (.agg [.i .i64 Size, .i .i64 Next, .list L]) (.i .i64 sA)) fun rA1 =>
 gT rA1 fun vs =>
 gC vs fun m5 msA6 =>
 gI .i64 m5 fun x1 =>
 gC msA6 fun m6 msA7 =>
 gB m6 fun x2 =>
 gN msA7 <|
 bd (
 ifB (!x2) (
 lenN out fun len =>
 lenN ([.i .i64 sA] : List MV) fun len1 =>
 chk (decide ((len + len1) * 8 ≤ 2 ^ 46)) <|
 some (0, [.list (out ++ ([.i .i64 sA] : List MV))])) (
 some (0, [.list out]))) fun p1 =>
 chk (Nat.beq p1.1 0) <|
 gC p1.2 fun m7 msA8 =>
 gL m7 fun out1 =>
 gN msA8 <|
 some (.inl [.list out1, .i .i64 (IntKind.wrap .i64 (sA + 1))])) (
 some (.inr (2, [.list out])))) [.list ([] : List MV), .i .i64 Next]) fun p =>
 chk (Nat.beq p.1 2) <|
 gC p.2 fun m8 msA9 =>
 gL m8 fun out2 =>
 gN msA9 <|
 some (.list out2)
theorem linkWindowOpen (w : MV) : bodyK cxWindowOpen [] none Try.f42 [w] = dWindowOpen w := by kernel_rfl
noncomputable def gWindowOpen : Nat → List MV → Option MV := addG 42 (lst1 dWindowOpen) gR01Ints
theorem soundWindowOpen : SoundG Try.prog cx gWindowOpen :=
  soundR01Ints.fn (c' := cxWindowOpen) (caps := []) ⟨rfl, rfl, rfl, rfl, rfl⟩ rfl tab_ok eq_ok mix_ok Try.func42 (by kernel_rfl) (fun _ => rfl) (lst1_of linkWindowOpen)

noncomputable def cxR25Open : Ctx := ⟨lookT tiTab, kk, gWindowOpen, gv, frs, lookN ftyOf, 36, [33], lookL [], lookH [(3, ⟨[1, 3, 4], [7], [], [(0, [(20, .sc (.k .b))])], [7, 33]⟩)], lookH [(7, ⟨[1, 4], [], [], [(0, [(3, .sc (.own 7 3 true))])], [7, 33]⟩)], lookH [(3, ⟨[1], [], [(3, .sc (.own 7 3 true)), (4, .sc (.k (.i .i64)))], [(2, [(3, .sc (.own 7 3 true))])], [7, 33]⟩)]⟩
noncomputable def dR25Open (w : MV) : Option MV :=
 gA w fun cs =>
 gC cs fun m msA =>
 gI .i64 m fun Size =>
 gC msA fun m1 msA1 =>
 gI .i64 m1 fun Next =>
 gC msA1 fun m2 msA2 =>
 gL m2 fun L =>
 gN msA2 <|
 bd (Loop (fun msA3 =>
 gC msA3 fun m3 msA4 =>
 gL m3 fun out =>
 gC msA4 fun m4 msA5 =>
 gI .i64 m4 fun sA =>
 gN msA5 <|
 bd (
 ifB (decide (sA < (IntKind.wrap .i64 (Next + Size)))) (
 some [.b (decide (sA < 100000))]) (
 some [.b false])) fun vs =>
 gC vs fun m5 msA6 =>
 gB m5 fun x =>
 gN msA6 <|
 ifB x (
 bd (dR25Has (.agg [.i .i64 Size, .i .i64 Next, .list L]) (.i .i64 sA)) fun rA =>
 gT rA fun vs1 =>
 gC vs1 fun m6 msA7 =>
 gS m6 fun x1 =>
 gC msA7 fun m7 msA8 =>
 gB m7 fun x2 =>
 gN msA8 <|
 bd (
 ifB (!x2) (
 lenN out fun len =>
 lenN ([.i .i64 sA] : List MV) fun len1 =>
 chk (decide ((len + len1) * 8 ≤ 2 ^ 46)) <|
 some (0, [.list (out ++ ([.i .i64 sA] : List MV))])) (
 some (0, [.list out]))) fun p1 =>
 chk (Nat.beq p1.1 0) <|
 gC p1.2 fun m8 msA9 =>
 gL m8 fun out1 =>
 gN msA9 <|
 some (.inl [.list out1, .i .i64 (IntKind.wrap .i64 (sA + 1))])) (
 some (.inr (2, [.list out])))) [.list ([] : List MV), .i .i64 Next]) fun p =>
 chk (Nat.beq p.1 2) <|
 gC p.2 fun m9 msA10 =>
 gL m9 fun out2 =>
 gN msA10 <|
 some (.list out2)
theorem linkR25Open (w : MV) : bodyK cxR25Open [] none Try.f43 [w] = dR25Open w := by kernel_rfl
noncomputable def gR25Open : Nat → List MV → Option MV := addG 43 (lst1 dR25Open) gWindowOpen
theorem soundR25Open : SoundG Try.prog cx gR25Open :=
  soundWindowOpen.fn (c' := cxR25Open) (caps := []) ⟨rfl, rfl, rfl, rfl, rfl⟩ rfl tab_ok eq_ok mix_ok Try.func43 (by kernel_rfl) (fun _ => rfl) (lst1_of linkR25Open)

noncomputable def cxL25WindowTurns : Ctx := ⟨lookT tiTab, kk, gR25Open, gv, frs, lookN ftyOf, 95, [], lookL [(8, [0, 2, 1, 3, 4, 5, 6, 7, 8, 9, 10, 12, 11, 13, 14, 15, 16, 17, 18, 19, 20]), (9, [0, 1, 2, 3, 4, 5, 7, 6, 8, 9, 10, 11, 12, 14, 13, 15, 16, 17])], lookH [(9, ⟨[3, 7, 16], [], [], [(0, [(6, .sc (.k .b))])], []⟩), (8, ⟨[3, 7, 8, 9, 10, 11, 12, 13, 14, 15], [], [], [(0, [(16, .sc (.k .b))])], []⟩), (1, ⟨[1, 2, 3], [], [], [(0, [(30, .sc (.k .b))])], []⟩)], lookH [], lookH []⟩
noncomputable def dL25WindowTurns (a a1 a2 : MV) : Option MV :=
 gA a fun cs =>
 gC cs fun m msA =>
 gI .i64 m fun Size =>
 gC msA fun m1 msA1 =>
 gI .i64 m1 fun Next =>
 gC msA1 fun m2 msA2 =>
 gL m2 fun L =>
 gN msA2 <|
 gI .i64 a1 fun a1N1 =>
 gS a2 fun a2N1 =>
 bd (
 bd (dL25Few (.agg [.i .i64 Size, .i .i64 Next, .list L])) fun rA =>
 gB rA fun x =>
 ifB (!x) (
 some [.b true]) (
 ifB (decide ((6100 : Int) < (a2N1.length : Int))) (
 some [.b true]) (
 bd (dL25Plain (.agg [.i .i64 Size, .i .i64 Next, .list L])) fun rA1 =>
 gA rA1 fun cs1 =>
 gC cs1 fun m3 msA3 =>
 gI .i64 m3 fun Size1 =>
 gC msA3 fun m4 msA4 =>
 gI .i64 m4 fun Next1 =>
 gC msA4 fun m5 msA5 =>
 gL m5 fun L1 =>
 gN msA5 <|
 bd (dR25Right (.agg [.i .i64 Size1, .i .i64 Next1, .list L1])) fun rA2 =>
 gB rA2 fun x1 =>
 some [.b (!x1)]))) fun vs =>
 gC vs fun m6 msA6 =>
 gB m6 fun x2 =>
 gN msA6 <|
 ifB x2 (
 bd (dL25Alive) fun rA3 =>
 gB rA3 fun x3 =>
 some (.b x3)) (
 bd (dL25Plain (.agg [.i .i64 Size, .i .i64 Next, .list L])) fun rA4 =>
 gA rA4 fun cs2 =>
 gC cs2 fun m7 msA7 =>
 gI .i64 m7 fun Size2 =>
 gC msA7 fun m8 msA8 =>
 gI .i64 m8 fun Next2 =>
 gC msA8 fun m9 msA9 =>
 gL m9 fun L2 =>
 gN msA9 <|
 bd (dWindowLearn (.agg [.i .i64 Size, .i .i64 Next, .list L]) (.i .i64 a1N1) (.s a2N1)) fun rA5 =>
 gT rA5 fun vs1 =>
 gC vs1 fun m10 msA10 =>
 gA m10 fun cs3 =>
 gC cs3 fun m11 msA11 =>
 gI .i64 m11 fun Size3 =>
 gC msA11 fun m12 msA12 =>
 gI .i64 m12 fun Next3 =>
 gC msA12 fun m13 msA13 =>
 gL m13 fun L3 =>
 gN msA13 <|
 gC msA10 fun m14 msA14 =>
 gI .i64 m14 fun x4 =>
 gN msA14 <|
 bd (dR25Learn (.agg [.i .i64 Size2, .i .i64 Next2, .list L2]) (.i .i64 a1N1) (.s a2N1)) fun rA6 =>
 gT rA6 fun vs2 =>
 gC vs2 fun m15 msA15 =>
 gA m15 fun cs4 =>
 gC cs4 fun m16 msA16 =>
 gI .i64 m16 fun Size4 =>
 gC msA16 fun m17 msA17 =>
 gI .i64 m17 fun Next4 =>
 gC msA17 fun m18 msA18 =>
 gL m18 fun L4 =>
 gN msA18 <|
 gC msA15 fun m19 msA19 =>
 gI .i64 m19 fun x5 =>
 gN msA19 <|
 bd (dWindowTake (.agg [.i .i64 Size, .i .i64 Next, .list L])) fun rA7 =>
 gT rA7 fun vs3 =>
 gC vs3 fun m20 msA20 =>
 gA m20 fun cs5 =>
 gC cs5 fun m21 msA21 =>
 gI .i64 m21 fun Size5 =>
 gC msA21 fun m22 msA22 =>
 gI .i64 m22 fun Next5 =>
 gC msA22 fun m23 msA23 =>
 gL m23 fun L5 =>
 gN msA23 <|
 gC msA20 fun m24 msA24 =>
 gL m24 fun x6 =>
 gN msA24 <|
 bd (dR25Take (.agg [.i .i64 Size2, .i .i64 Next2, .list L2])) fun rA8 =>
 gT rA8 fun vs4 =>
 gC vs4 fun m25 msA25 =>
 gA m25 fun cs6 =>
 gC cs6 fun m26 msA26 =>
 gI .i64 m26 fun Size6 =>
 gC msA26 fun m27 msA27 =>
 gI .i64 m27 fun Next6 =>
 gC msA27 fun m28 msA28 =>
 gL m28 fun L6 =>
 gN msA28 <|
 gC msA25 fun m29 msA29 =>
 gL m29 fun x7 =>
 gN msA29 <|
 bd (
 bd (dL25Plain (.agg [.i .i64 Size3, .i .i64 Next3, .list L3])) fun rA9 =>
 gA rA9 fun cs7 =>
 gC cs7 fun m30 msA30 =>
 gI .i64 m30 fun Size7 =>
 gC msA30 fun m31 msA31 =>
 gI .i64 m31 fun Next7 =>
 gC msA31 fun m32 msA32 =>
 gL m32 fun L7 =>
 gN msA32 <|
 bd (dR25Same (.agg [.i .i64 Size7, .i .i64 Next7, .list L7]) (.agg [.i .i64 Size4, .i .i64 Next4, .list L4])) fun rA10 =>
 gB rA10 fun x8 =>
 ifB x8 (
 ifB (decide (x4 = x5)) (
 bd (dL25Plain (.agg [.i .i64 Size5, .i .i64 Next5, .list L5])) fun rA11 =>
 gA rA11 fun cs8 =>
 gC cs8 fun m33 msA33 =>
 gI .i64 m33 fun Size8 =>
 gC msA33 fun m34 msA34 =>
 gI .i64 m34 fun Next8 =>
 gC msA34 fun m35 msA35 =>
 gL m35 fun L8 =>
 gN msA35 <|
 bd (dR25Same (.agg [.i .i64 Size8, .i .i64 Next8, .list L8]) (.agg [.i .i64 Size6, .i .i64 Next6, .list L6])) fun rA12 =>
 gB rA12 fun x9 =>
 ifB x9 (
 bd (dR01Strings (.list x6) (.list x7)) fun rA13 =>
 gB rA13 fun x10 =>
 some [.b x10]) (
 some [.b false])) (
 some [.b false])) (
 some [.b false])) fun vs5 =>
 gC vs5 fun m36 msA36 =>
 gB m36 fun x11 =>
 gN msA36 <|
 bd (
 bd (dL25Alive) fun rA14 =>
 gB rA14 fun x12 =>
 ifB x12 (
 ifB x11 (
 bd (dWindowOpen (.agg [.i .i64 Size, .i .i64 Next, .list L])) fun rA15 =>
 gL rA15 fun x13 =>
 bd (dR25Open (.agg [.i .i64 Size2, .i .i64 Next2, .list L2])) fun rA16 =>
 gL rA16 fun x14 =>
 bd (dR01Ints (.list x13) (.list x14)) fun rA17 =>
 gB rA17 fun x15 =>
 ifB x15 (
 bd (dL25Plain (.agg [.i .i64 Size, .i .i64 Next, .list L])) fun rA18 =>
 gA rA18 fun cs9 =>
 gC cs9 fun m37 msA37 =>
 gI .i64 m37 fun Size9 =>
 gC msA37 fun m38 msA38 =>
 gI .i64 m38 fun Next9 =>
 gC msA38 fun m39 msA39 =>
 gL m39 fun L9 =>
 gN msA39 <|
 bd (dR25Same (.agg [.i .i64 Size9, .i .i64 Next9, .list L9]) (.agg [.i .i64 Size2, .i .i64 Next2, .list L2])) fun rA19 =>
 gB rA19 fun x16 =>
 some [.b x16]) (
 some [.b false])) (
 some [.b false])) (
 some [.b false])) fun vs6 =>
 gC vs6 fun m40 msA40 =>
 gB m40 fun x17 =>
 gN msA40 <|
 some (.b x17))
theorem linkL25WindowTurns (a a1 a2 : MV) : bodyK cxL25WindowTurns [] none Try.f7 [a, a1, a2] = dL25WindowTurns a a1 a2 := by kernel_rfl
noncomputable def gL25WindowTurns : Nat → List MV → Option MV := addG 7 (lst3 dL25WindowTurns) gR25Open
theorem soundL25WindowTurns : SoundG Try.prog cx gL25WindowTurns :=
  soundR25Open.fn (c' := cxL25WindowTurns) (caps := []) ⟨rfl, rfl, rfl, rfl, rfl⟩ rfl tab_ok eq_ok mix_ok Try.func7 (by kernel_rfl) (fun _ => rfl) (lst3_of linkL25WindowTurns)

noncomputable def cxL25WindowOpens : Ctx := ⟨lookT tiTab, kk, gL25WindowTurns, gv, frs, lookN ftyOf, 87, [], lookL [(9, [0, 1, 2, 3, 4, 5, 6, 7, 8, 9, 10, 11, 12, 13])], lookH [(14, ⟨[2, 5], [], [], [(0, [(4, .sc (.k .b))])], []⟩), (12, ⟨[2, 5, 6, 8, 9], [], [], [(0, [(70, .sc (.k .b))])], []⟩), (9, ⟨[1, 2, 5, 6, 7], [], [], [(0, [(50, .sc (.k .b))])], []⟩), (8, ⟨[1, 2, 5, 7], [], [], [(0, [(6, .sc (.k .b))])], []⟩), (1, ⟨[1, 2], [], [], [(0, [(18, .sc (.k .b))])], []⟩)], lookH [], lookH [(6, ⟨[1, 2, 5], [], [(6, .sc (.k .b)), (7, .sc (.k (.i .i64)))], [(1, [(4, .sc (.k .b))]), (2, [(6, .sc (.k .b))])], []⟩)]⟩
noncomputable def dL25WindowOpens (a a1 : MV) : Option MV :=
 gA a fun cs =>
 gC cs fun m msA =>
 gI .i64 m fun Size =>
 gC msA fun m1 msA1 =>
 gI .i64 m1 fun Next =>
 gC msA1 fun m2 msA2 =>
 gL m2 fun L =>
 gN msA2 <|
 gI .i64 a1 fun a1N1 =>
 bd (
 bd (dL25Few (.agg [.i .i64 Size, .i .i64 Next, .list L])) fun rA =>
 gB rA fun x =>
 ifB (!x) (
 some [.b true]) (
 bd (dL25Plain (.agg [.i .i64 Size, .i .i64 Next, .list L])) fun rA1 =>
 gA rA1 fun cs1 =>
 gC cs1 fun m3 msA3 =>
 gI .i64 m3 fun Size1 =>
 gC msA3 fun m4 msA4 =>
 gI .i64 m4 fun Next1 =>
 gC msA4 fun m5 msA5 =>
 gL m5 fun L1 =>
 gN msA5 <|
 bd (dR25Right (.agg [.i .i64 Size1, .i .i64 Next1, .list L1])) fun rA2 =>
 gB rA2 fun x1 =>
 some [.b (!x1)])) fun vs =>
 gC vs fun m6 msA6 =>
 gB m6 fun x2 =>
 gN msA6 <|
 ifB x2 (
 bd (dL25Alive) fun rA3 =>
 gB rA3 fun x3 =>
 some (.b x3)) (
 bd (dWindowOpen (.agg [.i .i64 Size, .i .i64 Next, .list L])) fun rA4 =>
 gL rA4 fun x4 =>
 bd (Loop (fun msA7 =>
 gC msA7 fun m7 msA8 =>
 gB m7 fun x5 =>
 gC msA8 fun m8 msA9 =>
 gI .i64 m8 fun x6 =>
 gN msA9 <|
 lenN x4 fun len =>
 ifB (decide (x6 < (len : Int))) (
 bd (
 ifB x5 (
 some [.b true]) (
 idx x4 x6 fun y =>
 gI .i64 y fun x7 =>
 some [.b (decide (x7 = a1N1))])) fun vs1 =>
 gC vs1 fun m9 msA10 =>
 gB m9 fun x8 =>
 gN msA10 <|
 bd (
 ifB (decide ((0 : Int) < x6)) (
 idx x4 (IntKind.wrap .i64 (x6 - 1)) fun y1 =>
 gI .i64 y1 fun x9 =>
 idx x4 x6 fun y2 =>
 gI .i64 y2 fun x10 =>
 some [.b (decide (x10 ≤ x9))]) (
 some [.b false])) fun vs2 =>
 gC vs2 fun m10 msA11 =>
 gB m10 fun x11 =>
 gN msA11 <|
 ifB x11 (
 some (.inr (1, [.b false]))) (
 some (.inl [.b x8, .i .i64 (IntKind.wrap .i64 (x6 + 1))]))) (
 some (.inr (2, [.b x5])))) [.b false, .i .i64 0]) fun p =>
 ifB (Nat.beq p.1 2) (
 gC p.2 fun m11 msA12 =>
 gB m11 fun x12 =>
 gN msA12 <|
 bd (dWindowLearn (.agg [.i .i64 Size, .i .i64 Next, .list L]) (.i .i64 a1N1) (.s ([118] : List UInt8))) fun rA5 =>
 gT rA5 fun vs3 =>
 gC vs3 fun m12 msA13 =>
 gA m12 fun cs2 =>
 gC cs2 fun m13 msA14 =>
 gI .i64 m13 fun Size2 =>
 gC msA14 fun m14 msA15 =>
 gI .i64 m14 fun Next2 =>
 gC msA15 fun m15 msA16 =>
 gL m15 fun L2 =>
 gN msA16 <|
 gC msA13 fun m16 msA17 =>
 gI .i64 m16 fun x13 =>
 gN msA17 <|
 bd (
 ifB (decide (x13 = 0)) (
 lenN L2 fun len1 =>
 lenN L fun len2 =>
 some [.b (!(decide (x12 = (decide ((len1 : Int) = (IntKind.wrap .i64 ((len2 : Int) + 1)))))))]) (
 some [.b (!(decide (x12 = false)))])) fun vs4 =>
 gC vs4 fun m17 msA18 =>
 gB m17 fun x14 =>
 gN msA18 <|
 ifB x14 (
 some (.b false)) (
 bd (
 bd (dL25Alive) fun rA6 =>
 gB rA6 fun x15 =>
 ifB x15 (
 lenN x4 fun len3 =>
 lenN L fun len4 =>
 some [.b (decide ((len3 : Int) = (IntKind.wrap .i64 ((imin Size (IntKind.wrap .i64 (100000 - Next))) - (len4 : Int)))))]) (
 some [.b false])) fun vs5 =>
 gC vs5 fun m18 msA19 =>
 gB m18 fun x16 =>
 gN msA19 <|
 some (.b x16))) (
 chk (Nat.beq p.1 1) <|
 gC p.2 fun m19 msA20 =>
 gB m19 fun x17 =>
 gN msA20 <|
 some (.b x17)))
theorem linkL25WindowOpens (a a1 : MV) : bodyK cxL25WindowOpens [] none Try.f8 [a, a1] = dL25WindowOpens a a1 := by kernel_rfl
noncomputable def gL25WindowOpens : Nat → List MV → Option MV := addG 8 (lst2 dL25WindowOpens) gL25WindowTurns
theorem soundL25WindowOpens : SoundG Try.prog cx gL25WindowOpens :=
  soundL25WindowTurns.fn (c' := cxL25WindowOpens) (caps := []) ⟨rfl, rfl, rfl, rfl, rfl⟩ rfl tab_ok eq_ok mix_ok Try.func8 (by kernel_rfl) (fun _ => rfl) (lst2_of linkL25WindowOpens)

noncomputable def cxR25New : Ctx := ⟨lookT tiTab, kk, gL25WindowOpens, gv, frs, lookN ftyOf, 13, [], lookL [], lookH [(1, ⟨[0, 2], [], [], [(0, [(9, .sc (.k .b))])], []⟩)], lookH [], lookH []⟩
noncomputable def dR25New (size : MV) : Option MV :=
 gI .i64 size fun size1 =>
 bd (
 ifB (decide (size1 < 1)) (
 some [.b true]) (
 some [.b (decide ((16 : Int) < size1))])) fun vs =>
 gC vs fun m msA =>
 gB m fun x =>
 gN msA <|
 ifB x (
 some (.tup [.agg [.i .i64 0, .i .i64 0, .list ([] : List MV)], .i .i64 1])) (
 some (.tup [.agg [.i .i64 size1, .i .i64 0, .list ([] : List MV)], .i .i64 0]))
theorem linkR25New (size : MV) : bodyK cxR25New [] none Try.f62 [size] = dR25New size := by kernel_rfl
noncomputable def gR25New : Nat → List MV → Option MV := addG 62 (lst1 dR25New) gL25WindowOpens
theorem soundR25New : SoundG Try.prog cx gR25New :=
  soundL25WindowOpens.fn (c' := cxR25New) (caps := []) ⟨rfl, rfl, rfl, rfl, rfl⟩ rfl tab_ok eq_ok mix_ok Try.func62 (by kernel_rfl) (fun _ => rfl) (lst1_of linkR25New)

noncomputable def cxWindowRight : Ctx := ⟨lookT tiTab, kk, gR25New, gv, frs, lookN ftyOf, 56, [], lookL [(8, [0, 1, 2, 3, 4, 5, 6, 7, 8, 9, 10, 11, 12, 13, 14, 15, 16])], lookH [(8, ⟨[1, 5, 7, 29, 30, 31], [], [], [(0, [(51, .sc (.k .b))])], []⟩), (2, ⟨[1, 4], [], [], [(0, [(25, .sc (.k .b))])], []⟩)], lookH [], lookH [(6, ⟨[1, 29, 30], [], [(5, .sc (.k (.i .i64))), (31, .sc (.k (.i .i64)))], [(1, [(2, .sc (.k .b))]), (2, [])], []⟩)]⟩
noncomputable def dWindowRight (w : MV) : Option MV :=
 gA w fun cs =>
 gC cs fun m msA =>
 gI .i64 m fun Size =>
 gC msA fun m1 msA1 =>
 gI .i64 m1 fun Next =>
 gC msA1 fun m2 msA2 =>
 gL m2 fun L =>
 gN msA2 <|
 bd (dWindowNew (.i .i64 Size)) fun rA =>
 gT rA fun vs =>
 gC vs fun m3 msA3 =>
 gA m3 fun cs1 =>
 gC cs1 fun m4 msA4 =>
 gI .i64 m4 fun Size1 =>
 gC msA4 fun m5 msA5 =>
 gI .i64 m5 fun Next1 =>
 gC msA5 fun m6 msA6 =>
 gL m6 fun L1 =>
 gN msA6 <|
 gC msA3 fun m7 msA7 =>
 gI .i64 m7 fun x =>
 gN msA7 <|
 bd (
 ifB (!decide (x = 0)) (
 some [.b true]) (
 ifB (decide (Next < 0)) (
 some [.b true]) (
 some [.b (decide ((100000 : Int) < Next))]))) fun vs1 =>
 gC vs1 fun m8 msA8 =>
 gB m8 fun x1 =>
 gN msA8 <|
 ifB x1 (
 some (.b false)) (
 lenN L fun len =>
 bd (Loop (fun msA9 =>
 gC msA9 fun m9 msA10 =>
 gI .i64 m9 fun least =>
 gC msA10 fun m10 msA11 =>
 gI .i64 m10 fun x2 =>
 gN msA11 <|
 ifB (decide (x2 < (len : Int))) (
 idx L x2 fun y =>
 gA y fun cs2 =>
 gC cs2 fun m11 msA12 =>
 gI .i64 m11 fun Slot =>
 gC msA12 fun m12 msA13 =>
 gS m12 fun Value =>
 gN msA13 <|
 bd (
 ifB (decide (Slot < least)) (
 some [.b true]) (
 bd (dWindowWindowEnd (.agg [.i .i64 Size, .i .i64 Next, .list L])) fun rA1 =>
 gI .i64 rA1 fun x3 =>
 ifB (decide (x3 ≤ Slot)) (
 some [.b true]) (
 some [.b (decide ((6000 : Int) < (Value.length : Int)))]))) fun vs2 =>
 gC vs2 fun m13 msA14 =>
 gB m13 fun x4 =>
 gN msA14 <|
 ifB x4 (
 some (.inr (1, [.b false]))) (
 some (.inl [.i .i64 (IntKind.wrap .i64 (Slot + 1)), .i .i64 (IntKind.wrap .i64 (x2 + 1))]))) (
 some (.inr (2, [])))) [.i .i64 Next, .i .i64 0]) fun p =>
 ifB (Nat.beq p.1 2) (
 gN p.2 <|
 some (.b true)) (
 chk (Nat.beq p.1 1) <|
 gC p.2 fun m14 msA15 =>
 gB m14 fun x5 =>
 gN msA15 <|
 some (.b x5)))
theorem linkWindowRight (w : MV) : bodyK cxWindowRight [] none Try.f63 [w] = dWindowRight w := by kernel_rfl
noncomputable def gWindowRight : Nat → List MV → Option MV := addG 63 (lst1 dWindowRight) gR25New
theorem soundWindowRight : SoundG Try.prog cx gWindowRight :=
  soundR25New.fn (c' := cxWindowRight) (caps := []) ⟨rfl, rfl, rfl, rfl, rfl⟩ rfl tab_ok eq_ok mix_ok Try.func63 (by kernel_rfl) (fun _ => rfl) (lst1_of linkWindowRight)

noncomputable def cxSlicesEqualWindowEntry : Ctx := ⟨lookT tiTab, kk, gWindowRight, gv, frs, lookN ftyOf, 26, [], lookL [(6, [0, 1, 2, 3, 4, 5, 6, 7, 8])], lookH [], lookH [], lookH [(4, ⟨[0, 1, 12], [], [(13, .sc (.k (.i .i64)))], [(1, [(4, .sc (.k .b))]), (2, [])], []⟩)]⟩
noncomputable def dSlicesEqualWindowEntry (s1 s2 : MV) : Option MV :=
 gL s1 fun s1N1 =>
 gL s2 fun s2N1 =>
 lenN s1N1 fun len =>
 lenN s2N1 fun len1 =>
 ifB (!decide ((len : Int) = (len1 : Int))) (
 some (.b false)) (
 lenN s1N1 fun len2 =>
 bd (Loop (fun msA =>
 gC msA fun m msA1 =>
 gI .i64 m fun x =>
 gN msA1 <|
 ifB (decide (x < (len2 : Int))) (
 idx s1N1 x fun y =>
 gA y fun cs =>
 gC cs fun m1 msA2 =>
 gI .i64 m1 fun Slot =>
 gC msA2 fun m2 msA3 =>
 gS m2 fun Value =>
 gN msA3 <|
 idx s2N1 x fun y1 =>
 gA y1 fun cs1 =>
 gC cs1 fun m3 msA4 =>
 gI .i64 m3 fun Slot1 =>
 gC msA4 fun m4 msA5 =>
 gS m4 fun Value1 =>
 gN msA5 <|
 ifB (!((decide (Slot = Slot1)) && (decide (Value = Value1)))) (
 some (.inr (1, [.b false]))) (
 some (.inl [.i .i64 (IntKind.wrap .i64 (x + 1))]))) (
 some (.inr (2, [])))) [.i .i64 0]) fun p =>
 ifB (Nat.beq p.1 2) (
 gN p.2 <|
 some (.b true)) (
 chk (Nat.beq p.1 1) <|
 gC p.2 fun m5 msA6 =>
 gB m5 fun x1 =>
 gN msA6 <|
 some (.b x1)))
theorem linkSlicesEqualWindowEntry (s1 s2 : MV) : bodyK cxSlicesEqualWindowEntry [] none Try.f97 [s1, s2] = dSlicesEqualWindowEntry s1 s2 := by kernel_rfl
noncomputable def gSlicesEqualWindowEntry : Nat → List MV → Option MV := addG 97 (lst2 dSlicesEqualWindowEntry) gWindowRight
theorem soundSlicesEqualWindowEntry : SoundG Try.prog cx gSlicesEqualWindowEntry :=
  soundWindowRight.fn (c' := cxSlicesEqualWindowEntry) (caps := []) ⟨rfl, rfl, rfl, rfl, rfl⟩ rfl tab_ok eq_ok mix_ok Try.func97 (by kernel_rfl) (fun _ => rfl) (lst2_of linkSlicesEqualWindowEntry)

noncomputable def cxWindowSame : Ctx := ⟨lookT tiTab, kk, gSlicesEqualWindowEntry, gv, frs, lookN ftyOf, 24, [], lookL [], lookH [(1, ⟨[2, 3], [], [], [(0, [(4, .sc (.k .b))])], []⟩)], lookH [], lookH []⟩
noncomputable def dWindowSame (a b : MV) : Option MV :=
 gA a fun cs =>
 gC cs fun m msA =>
 gI .i64 m fun Size =>
 gC msA fun m1 msA1 =>
 gI .i64 m1 fun Next =>
 gC msA1 fun m2 msA2 =>
 gL m2 fun L =>
 gN msA2 <|
 gA b fun cs1 =>
 gC cs1 fun m3 msA3 =>
 gI .i64 m3 fun Size1 =>
 gC msA3 fun m4 msA4 =>
 gI .i64 m4 fun Next1 =>
 gC msA4 fun m5 msA5 =>
 gL m5 fun L1 =>
 gN msA5 <|
 bd (
 ifB (decide (Size = Size1)) (
 ifB (decide (Next = Next1)) (
 bd (dSlicesEqualWindowEntry (.list L) (.list L1)) fun rA =>
 gB rA fun x =>
 some [.b x]) (
 some [.b false])) (
 some [.b false])) fun vs =>
 gC vs fun m6 msA6 =>
 gB m6 fun x1 =>
 gN msA6 <|
 some (.b x1)
theorem linkWindowSame (a b : MV) : bodyK cxWindowSame [] none Try.f64 [a, b] = dWindowSame a b := by kernel_rfl
noncomputable def gWindowSame : Nat → List MV → Option MV := addG 64 (lst2 dWindowSame) gSlicesEqualWindowEntry
theorem soundWindowSame : SoundG Try.prog cx gWindowSame :=
  soundSlicesEqualWindowEntry.fn (c' := cxWindowSame) (caps := []) ⟨rfl, rfl, rfl, rfl, rfl⟩ rfl tab_ok eq_ok mix_ok Try.func64 (by kernel_rfl) (fun _ => rfl) (lst2_of linkWindowSame)

noncomputable def cxL25WindowMay : Ctx := ⟨lookT tiTab, kk, gWindowSame, gv, frs, lookN ftyOf, 61, [], lookL [(5, [0, 1, 2, 4, 3, 5, 6, 7, 8, 9, 10, 11, 13, 15, 12, 14, 16, 17, 18, 19, 20, 21, 23, 22, 24, 25, 26, 27, 28, 29, 30, 31])], lookH [(5, ⟨[3, 4, 7, 8, 9, 10], [], [], [(0, [(6, .sc (.k .b))])], []⟩), (1, ⟨[2, 3, 4], [], [], [(0, [(18, .sc (.k .b))])], []⟩)], lookH [], lookH []⟩
noncomputable def dL25WindowMay (a b size : MV) : Option MV :=
 gA a fun cs =>
 gC cs fun m msA =>
 gI .i64 m fun Size =>
 gC msA fun m1 msA1 =>
 gI .i64 m1 fun Next =>
 gC msA1 fun m2 msA2 =>
 gL m2 fun L =>
 gN msA2 <|
 gA b fun cs1 =>
 gC cs1 fun m3 msA3 =>
 gI .i64 m3 fun Size1 =>
 gC msA3 fun m4 msA4 =>
 gI .i64 m4 fun Next1 =>
 gC msA4 fun m5 msA5 =>
 gL m5 fun L1 =>
 gN msA5 <|
 gI .i64 size fun size1 =>
 bd (
 bd (dL25Few (.agg [.i .i64 Size, .i .i64 Next, .list L])) fun rA =>
 gB rA fun x =>
 ifB (!x) (
 some [.b true]) (
 bd (dL25Few (.agg [.i .i64 Size1, .i .i64 Next1, .list L1])) fun rA1 =>
 gB rA1 fun x1 =>
 some [.b (!x1)])) fun vs =>
 gC vs fun m6 msA6 =>
 gB m6 fun x2 =>
 gN msA6 <|
 ifB x2 (
 bd (dL25Alive) fun rA2 =>
 gB rA2 fun x3 =>
 some (.b x3)) (
 bd (dWindowNew (.i .i64 size1)) fun rA3 =>
 gT rA3 fun vs1 =>
 gC vs1 fun m7 msA7 =>
 gA m7 fun cs2 =>
 gC cs2 fun m8 msA8 =>
 gI .i64 m8 fun Size2 =>
 gC msA8 fun m9 msA9 =>
 gI .i64 m9 fun Next2 =>
 gC msA9 fun m10 msA10 =>
 gL m10 fun L2 =>
 gN msA10 <|
 gC msA7 fun m11 msA11 =>
 gI .i64 m11 fun x4 =>
 gN msA11 <|
 bd (dR25New (.i .i64 size1)) fun rA4 =>
 gT rA4 fun vs2 =>
 gC vs2 fun m12 msA12 =>
 gA m12 fun cs3 =>
 gC cs3 fun m13 msA13 =>
 gI .i64 m13 fun Size3 =>
 gC msA13 fun m14 msA14 =>
 gI .i64 m14 fun Next3 =>
 gC msA14 fun m15 msA15 =>
 gL m15 fun L3 =>
 gN msA15 <|
 gC msA12 fun m16 msA16 =>
 gI .i64 m16 fun x5 =>
 gN msA16 <|
 bd (
 bd (dL25Alive) fun rA5 =>
 gB rA5 fun x6 =>
 ifB x6 (
 bd (dWindowRight (.agg [.i .i64 Size, .i .i64 Next, .list L])) fun rA6 =>
 gB rA6 fun x7 =>
 bd (dL25Plain (.agg [.i .i64 Size, .i .i64 Next, .list L])) fun rA7 =>
 gA rA7 fun cs4 =>
 gC cs4 fun m17 msA17 =>
 gI .i64 m17 fun Size4 =>
 gC msA17 fun m18 msA18 =>
 gI .i64 m18 fun Next4 =>
 gC msA18 fun m19 msA19 =>
 gL m19 fun L4 =>
 gN msA19 <|
 bd (dR25Right (.agg [.i .i64 Size4, .i .i64 Next4, .list L4])) fun rA8 =>
 gB rA8 fun x8 =>
 ifB (decide (x7 = x8)) (
 bd (dWindowSame (.agg [.i .i64 Size, .i .i64 Next, .list L]) (.agg [.i .i64 Size1, .i .i64 Next1, .list L1])) fun rA9 =>
 gB rA9 fun x9 =>
 bd (dL25Plain (.agg [.i .i64 Size, .i .i64 Next, .list L])) fun rA10 =>
 gA rA10 fun cs5 =>
 gC cs5 fun m20 msA20 =>
 gI .i64 m20 fun Size5 =>
 gC msA20 fun m21 msA21 =>
 gI .i64 m21 fun Next5 =>
 gC msA21 fun m22 msA22 =>
 gL m22 fun L5 =>
 gN msA22 <|
 bd (dL25Plain (.agg [.i .i64 Size1, .i .i64 Next1, .list L1])) fun rA11 =>
 gA rA11 fun cs6 =>
 gC cs6 fun m23 msA23 =>
 gI .i64 m23 fun Size6 =>
 gC msA23 fun m24 msA24 =>
 gI .i64 m24 fun Next6 =>
 gC msA24 fun m25 msA25 =>
 gL m25 fun L6 =>
 gN msA25 <|
 bd (dR25Same (.agg [.i .i64 Size5, .i .i64 Next5, .list L5]) (.agg [.i .i64 Size6, .i .i64 Next6, .list L6])) fun rA12 =>
 gB rA12 fun x10 =>
 ifB (decide (x9 = x10)) (
 bd (dL25Plain (.agg [.i .i64 Size2, .i .i64 Next2, .list L2])) fun rA13 =>
 gA rA13 fun cs7 =>
 gC cs7 fun m26 msA26 =>
 gI .i64 m26 fun Size7 =>
 gC msA26 fun m27 msA27 =>
 gI .i64 m27 fun Next7 =>
 gC msA27 fun m28 msA28 =>
 gL m28 fun L7 =>
 gN msA28 <|
 bd (dR25Same (.agg [.i .i64 Size7, .i .i64 Next7, .list L7]) (.agg [.i .i64 Size3, .i .i64 Next3, .list L3])) fun rA14 =>
 gB rA14 fun x11 =>
 ifB x11 (
 some [.b (decide (x4 = x5))]) (
 some [.b false])) (
 some [.b false])) (
 some [.b false])) (
 some [.b false])) fun vs3 =>
 gC vs3 fun m29 msA29 =>
 gB m29 fun x12 =>
 gN msA29 <|
 some (.b x12))
theorem linkL25WindowMay (a b size : MV) : bodyK cxL25WindowMay [] none Try.f14 [a, b, size] = dL25WindowMay a b size := by kernel_rfl
noncomputable def gL25WindowMay : Nat → List MV → Option MV := addG 14 (lst3 dL25WindowMay) gWindowSame
theorem soundL25WindowMay : SoundG Try.prog cx gL25WindowMay :=
  soundWindowSame.fn (c' := cxL25WindowMay) (caps := []) ⟨rfl, rfl, rfl, rfl, rfl⟩ rfl tab_ok eq_ok mix_ok Try.func14 (by kernel_rfl) (fun _ => rfl) (lst3_of linkL25WindowMay)
end Dn.S
