import Derived.Test.YtmdniblpkkoeoaaDnMTab
import Derived.Test.YtmdniblpkkoeoaaDnMT
import Derived.KernelRfl
import Derived.Test.YtmdniblpkkoeoaaProg
/-
  The functions, on plain values, and their contracts. Conditions: none.
-/
open Go Dn Go.Proofs
set_option linter.unusedVariables false
set_option linter.unusedSimpArgs false
set_option maxRecDepth 100000
namespace Dn.S
theorem tab_ok : TIok Try.prog (lookT tiTab) := tabB_ok (by kernel_rfl)
theorem eq_ok : EqOK Try.prog (lookT tiTab) := eqTabB_ok (by kernel_rfl)
theorem mix_ok : Try.prog.follows .mixedOrders = true := by kernel_rfl
def lookH : List (Nat × Hint) → Nat → Hint
  | [], _ => default
  | (k, s) :: r, t => bif Nat.beq k t then s else lookH r t
def lookL : List (Nat × List Nat) → Nat → List Nat
  | [], _ => []
  | (k, s) :: r, t => bif Nat.beq k t then s else lookL r t
def lookN : List (Nat × Nat) → Nat → Nat
  | [], _ => 0
  | (k, s) :: r, t => bif Nat.beq k t then s else lookN r t
def kk (n : Nat) : Nat := n
def gv (n : Nat) : Bool := nmem [70, 76, 84] n
def frs (n : Nat) : Bool := nmem [70, 71, 75, 76, 83, 84] n
def ftyOf : List (Nat × Nat) := [(70, 34), (71, 34), (75, 48), (76, 48), (83, 88), (84, 88)]
def lookF : List (Nat × FloatKind) → Nat → Option FloatKind
  | [], _ => none
  | (k, s) :: r, t => bif Nat.beq k t then some s else lookF r t
def fkTab : List (Nat × FloatKind) := [(166, .f64)]
theorem fk_ok : ∀ t k, lookF fkTab t = some k → Try.prog.underlying t = some (.float k) := by
  intro t k h
  unfold fkTab at h
  simp only [lookF] at h
  cases hb : Nat.beq 166 t with
  | true =>
    rw [hb] at h
    have ht := Nat.eq_of_beq_eq_true hb
    subst ht
    simp only [cond_true, Option.some.injEq] at h
    subst h
    exact Try.underlying166
  | false =>
  rw [hb] at h
  simp only [cond_false] at h
  cases h
def cx : Ctx := ⟨lookT tiTab, kk, fun _ _ => none, gv, frs, lookN ftyOf, 0, [], [], fun _ => [], lookF fkTab, fun _ => [], fun _ => default, fun _ => default, fun _ => default⟩
def tiAt (t : Nat) : TI := match lookT tiTab t with | some I => I | none => ⟨false, 0, 0, [], [], [], [], 0, []⟩
theorem tv83 : cx.tv 83 = some (tiAt 83) := by kernel_rfl
theorem tv88 : cx.tv 88 = some (tiAt 88) := by kernel_rfl
theorem hand83 {g : Nat → List MV → Option MV} (h : SoundG Try.prog cx g) : SoundG Try.prog cx (addG 83 (cloneF 34 48) g) := h.add1 (fun _ => rfl) (fun ms r hr => by
  obtain ⟨xs, rfl, rfl, h1, h2⟩ := cloneF_some hr
  exact clone_ok (P := Try.prog) (c := cx) (f := 83) (fn := Try.f83) (t := 83) (I := tiAt 83) (E := tiAt 88) (i0 := 0) (i1 := 1) (i2 := 2) (i3 := 3) (oA := opAt Try.f83 noOp 0) (oB := opAt Try.f83 noOp 1) (oC := opAt Try.f83 noOp 2) (oD := opAt Try.f83 noOp 3) (oE := opAt Try.f83 noOp 4) (oF := opAt Try.f83 noOp 5) (oG := opAt Try.f83 noOp 6) (oH := opAt Try.f83 noOp 7) tab_ok tv83 (by kernel_rfl) tv88 (Nat.le_of_ble_eq_true (by kernel_rfl)) (by kernel_rfl) (by kernel_rfl) Try.func83 (by kernel_rfl) (by kernel_rfl) (by kernel_rfl) (by kernel_rfl)
    ⟨by kernel_rfl, by kernel_rfl, by kernel_rfl⟩ ⟨by kernel_rfl, by kernel_rfl, by kernel_rfl⟩ ⟨by kernel_rfl, by kernel_rfl, by kernel_rfl⟩ ⟨by kernel_rfl, by kernel_rfl, by kernel_rfl⟩ ⟨by kernel_rfl, by kernel_rfl, by kernel_rfl⟩ ⟨by kernel_rfl, by kernel_rfl, by kernel_rfl⟩ ⟨by kernel_rfl, by kernel_rfl, by kernel_rfl⟩ ⟨by kernel_rfl, by kernel_rfl, by kernel_rfl⟩ (by rw [show (tiAt 88).size = 34 by kernel_rfl]; exact h1) (by rw [show (tiAt 88).bytes = 48 by kernel_rfl]; exact h2))
theorem ins84 : InsFn Try.prog 84 83 3 4 88 106 Try.f84 (fun k => k) (opAt Try.f84 noOp) (insTail (opAt Try.f84 noOp)) := by
  refine ⟨Try.func84, by kernel_rfl, by kernel_rfl, by kernel_rfl, by kernel_rfl, ?_, mix_ok, by kernel_rfl⟩
  exact ⟨⟨by kernel_rfl, by kernel_rfl, by kernel_rfl⟩, ⟨by kernel_rfl, by kernel_rfl, by kernel_rfl⟩, ⟨by kernel_rfl, by kernel_rfl, by kernel_rfl⟩, ⟨by kernel_rfl, by kernel_rfl, by kernel_rfl⟩, ⟨by kernel_rfl, by kernel_rfl, by kernel_rfl⟩, ⟨by kernel_rfl, by kernel_rfl, by kernel_rfl⟩, ⟨by kernel_rfl, by kernel_rfl, by kernel_rfl⟩, ⟨by kernel_rfl, by kernel_rfl, by kernel_rfl⟩, ⟨by kernel_rfl, by kernel_rfl, by kernel_rfl⟩, ⟨by kernel_rfl, by kernel_rfl, by kernel_rfl⟩, ⟨by kernel_rfl, by kernel_rfl, by kernel_rfl⟩, ⟨by kernel_rfl, by kernel_rfl, by kernel_rfl⟩, ⟨by kernel_rfl, by kernel_rfl, by kernel_rfl⟩, ⟨by kernel_rfl, by kernel_rfl, by kernel_rfl⟩, ⟨by kernel_rfl, by kernel_rfl, by kernel_rfl⟩, ⟨by kernel_rfl, by kernel_rfl, by kernel_rfl⟩, ⟨by kernel_rfl, by kernel_rfl, by kernel_rfl⟩, ⟨by kernel_rfl, by kernel_rfl, by kernel_rfl⟩, ⟨by kernel_rfl, by kernel_rfl, by kernel_rfl⟩, ⟨by kernel_rfl, by kernel_rfl, by kernel_rfl⟩, ⟨by kernel_rfl, by kernel_rfl, by kernel_rfl⟩, ⟨by kernel_rfl, by kernel_rfl, by kernel_rfl⟩, ⟨by kernel_rfl, by kernel_rfl, by kernel_rfl⟩, ⟨by kernel_rfl, by kernel_rfl, by kernel_rfl⟩, ⟨by kernel_rfl, by kernel_rfl, by kernel_rfl⟩, ⟨by kernel_rfl, by kernel_rfl, by kernel_rfl⟩, ⟨by kernel_rfl, by kernel_rfl, by kernel_rfl⟩, ⟨by kernel_rfl, by kernel_rfl, by kernel_rfl⟩, ⟨by kernel_rfl, by kernel_rfl, by kernel_rfl⟩, ⟨by kernel_rfl, by kernel_rfl, by kernel_rfl⟩, ⟨by kernel_rfl, by kernel_rfl, by kernel_rfl⟩, ⟨by kernel_rfl, by kernel_rfl, by kernel_rfl⟩, ⟨by kernel_rfl, by kernel_rfl, by kernel_rfl⟩, ⟨by kernel_rfl, by kernel_rfl, by kernel_rfl⟩, ⟨by kernel_rfl, by kernel_rfl, by kernel_rfl⟩, ⟨by kernel_rfl, by kernel_rfl, by kernel_rfl⟩, ⟨by kernel_rfl, by kernel_rfl, by kernel_rfl⟩, ⟨by kernel_rfl, by kernel_rfl, by kernel_rfl⟩, ⟨by kernel_rfl, by kernel_rfl, by kernel_rfl⟩, ⟨by kernel_rfl, by kernel_rfl, by kernel_rfl⟩, ⟨by kernel_rfl, by kernel_rfl, by kernel_rfl⟩, ⟨by kernel_rfl, by kernel_rfl, by kernel_rfl⟩, ⟨by kernel_rfl, by kernel_rfl, by kernel_rfl⟩, ⟨by kernel_rfl, by kernel_rfl, by kernel_rfl⟩, ⟨by kernel_rfl, by kernel_rfl, by kernel_rfl⟩, ⟨by kernel_rfl, by kernel_rfl, by kernel_rfl⟩, ⟨by kernel_rfl, by kernel_rfl, by kernel_rfl⟩, ⟨by kernel_rfl, by kernel_rfl, by kernel_rfl⟩, ⟨by kernel_rfl, by kernel_rfl, by kernel_rfl⟩, ⟨by kernel_rfl, by kernel_rfl, by kernel_rfl⟩, ⟨by kernel_rfl, by kernel_rfl, by kernel_rfl⟩, ⟨by kernel_rfl, by kernel_rfl, by kernel_rfl⟩, ⟨by kernel_rfl, by kernel_rfl, by kernel_rfl⟩, ⟨by kernel_rfl, by kernel_rfl, by kernel_rfl⟩, ⟨by kernel_rfl, by kernel_rfl, by kernel_rfl⟩, ⟨by kernel_rfl, by kernel_rfl, by kernel_rfl⟩, ⟨by kernel_rfl, by kernel_rfl, by kernel_rfl⟩, ⟨by kernel_rfl, by kernel_rfl, by kernel_rfl⟩, ⟨by kernel_rfl, by kernel_rfl, by kernel_rfl⟩, ⟨by kernel_rfl, by kernel_rfl, by kernel_rfl⟩, ⟨by kernel_rfl, by kernel_rfl, by kernel_rfl⟩, ⟨by kernel_rfl, by kernel_rfl, by kernel_rfl⟩, ⟨by kernel_rfl, by kernel_rfl, by kernel_rfl⟩, ⟨by kernel_rfl, by kernel_rfl, by kernel_rfl⟩, ⟨by kernel_rfl, by kernel_rfl, by kernel_rfl⟩, ⟨by kernel_rfl, by kernel_rfl, by kernel_rfl⟩, ⟨by kernel_rfl, by kernel_rfl, by kernel_rfl⟩, ⟨by kernel_rfl, by kernel_rfl, by kernel_rfl⟩, ⟨by kernel_rfl, by kernel_rfl, by kernel_rfl⟩, ⟨by kernel_rfl, by kernel_rfl, by kernel_rfl⟩, ⟨by kernel_rfl, by kernel_rfl, by kernel_rfl⟩, ⟨by kernel_rfl, by kernel_rfl, by kernel_rfl⟩, ⟨by kernel_rfl, by kernel_rfl, by kernel_rfl⟩, ⟨by kernel_rfl, by kernel_rfl, by kernel_rfl⟩, ⟨by kernel_rfl, by kernel_rfl, by kernel_rfl⟩, ⟨by kernel_rfl, by kernel_rfl, by kernel_rfl⟩, ⟨by kernel_rfl, by kernel_rfl, by kernel_rfl⟩, ⟨by kernel_rfl, by kernel_rfl, by kernel_rfl⟩, ⟨by kernel_rfl, by kernel_rfl, by kernel_rfl⟩, ⟨by kernel_rfl, by kernel_rfl, by kernel_rfl⟩, ⟨by kernel_rfl, by kernel_rfl, by kernel_rfl⟩, ⟨by kernel_rfl, by kernel_rfl, by kernel_rfl⟩, ⟨by kernel_rfl, by kernel_rfl, by kernel_rfl⟩, by kernel_rfl, by kernel_rfl⟩
theorem ov84 : ∀ args w, (callFunc 106 args).run Try.prog w = ((Extern.SlicesOverlaps.overlaps #[83, 83] #[4] args).run Try.prog w).andThen fun v w' => .ok (.value v) w' := fun args w => run_callFunc_extern Try.func106 (by kernel_rfl) (by kernel_rfl) (by kernel_rfl) (e := Extern.SlicesOverlaps.overlaps #[83, 83] #[4]) (by kernel_rfl) args w
theorem hand84 {g : Nat → List MV → Option MV} (h : SoundG Try.prog cx g) : SoundG Try.prog cx (addG 84 (insertF 48) g) := h.add1 (fun _ => rfl) (fun ms r hr => by
  obtain ⟨xs, ys, i, rfl, rfl, h1, h2, h3⟩ := insertF_some hr
  exact insert_ok (P := Try.prog) (c := cx) (I := tiAt 83) (E := tiAt 88) ins84 tab_ok tv83 (by kernel_rfl) tv88 (Nat.le_of_ble_eq_true (by kernel_rfl)) (by kernel_rfl) (by kernel_rfl) (by kernel_rfl) (by kernel_rfl) ov84 h1 h2 (by rw [show (tiAt 88).bytes = 48 by kernel_rfl]; exact h3))
noncomputable def H83 : Nat → List MV → Option MV := addG 83 (cloneF 34 48) (fun _ _ => none)
theorem soundH83 : SoundG Try.prog cx H83 := hand83 (SoundG.none _ _)
noncomputable def H84 : Nat → List MV → Option MV := addG 84 (insertF 48) H83
theorem soundH84 : SoundG Try.prog cx H84 := hand84 soundH83

noncomputable def cxR07Right : Ctx := ⟨lookT tiTab, kk, H84, gv, frs, lookN ftyOf, 23, [], [], lookL [], lookF fkTab, lookL [], lookH [(1, ⟨[1], [], [], [(0, [(2, .sc (.k .b))])], []⟩)], lookH [], lookH []⟩
noncomputable def dR07Right (sA : MV) : Option MV :=
 gA sA fun cs =>
 gC cs fun m msA =>
 gI .i64 m fun F =>
 gC msA fun m1 msA1 =>
 gI .i64 m1 fun T =>
 gN msA1 <|
 bd (
 ifB (decide ((1 : Int) ≤ F)) (
 ifB (decide (F ≤ 5)) (
 ifB (decide ((0 : Int) ≤ T)) (
 some [.b (decide (T ≤ F))]) (
 some [.b false])) (
 some [.b false])) (
 some [.b false])) fun vs =>
 gC vs fun m2 msA2 =>
 gB m2 fun x =>
 gN msA2 <|
 some (.b x)
theorem linkR07Right (sA : MV) : bodyK cxR07Right [] none Try.f78 [sA] = dR07Right sA := by kernel_rfl
noncomputable def gR07Right : Nat → List MV → Option MV := addG 78 (lst1 dR07Right) H84
theorem soundR07Right : SoundG Try.prog cx gR07Right :=
  soundH84.fn (c' := cxR07Right) (caps := []) ⟨rfl, rfl, rfl, rfl, rfl, rfl⟩ rfl tab_ok eq_ok fk_ok mix_ok Try.func78 (by kernel_rfl) (fun _ => rfl) (lst1_of linkR07Right)

noncomputable def cxR07N : Ctx := ⟨lookT tiTab, kk, gR07Right, gv, frs, lookN ftyOf, 11, [], [], lookL [], lookF fkTab, lookL [], lookH [], lookH [], lookH []⟩
noncomputable def dR07N (sA : MV) : Option MV :=
 gA sA fun cs =>
 gC cs fun m msA =>
 gI .i64 m fun F =>
 gC msA fun m1 msA1 =>
 gI .i64 m1 fun T =>
 gN msA1 <|
 some (.i .i64 (IntKind.wrap .i64 ((IntKind.wrap .i64 ((IntKind.wrap .i64 (3 * F)) + (IntKind.wrap .i64 (2 * T)))) + 1)))
theorem linkR07N (sA : MV) : bodyK cxR07N [] none Try.f105 [sA] = dR07N sA := by kernel_rfl
noncomputable def gR07N : Nat → List MV → Option MV := addG 105 (lst1 dR07N) gR07Right
theorem soundR07N : SoundG Try.prog cx gR07N :=
  soundR07Right.fn (c' := cxR07N) (caps := []) ⟨rfl, rfl, rfl, rfl, rfl, rfl⟩ rfl tab_ok eq_ok fk_ok mix_ok Try.func105 (by kernel_rfl) (fun _ => rfl) (lst1_of linkR07N)

noncomputable def cxR26May : Ctx := ⟨lookT tiTab, kk, gR07N, gv, frs, lookN ftyOf, 25, [], [], lookL [], lookF fkTab, lookL [(1, [0, 1, 2, 3, 4, 5, 6, 7, 8, 9, 10, 11, 12, 13, 14, 15, 16, 17, 18, 19, 20])], lookH [(1, ⟨[2, 3], [], [], [(0, [(4, .sc (.k .b))])], []⟩)], lookH [], lookH []⟩
noncomputable def dR26May (sA x : MV) : Option MV :=
 gA sA fun cs =>
 gC cs fun m msA =>
 gI .i64 m fun F =>
 gC msA fun m1 msA1 =>
 gI .i64 m1 fun T =>
 gN msA1 <|
 gA x fun cs1 =>
 gC cs1 fun m2 msA2 =>
 gI .i64 m2 fun By =>
 gC msA2 fun m3 msA3 =>
 gI .i64 m3 fun Slot =>
 gC msA3 fun m4 msA4 =>
 gH m4 fun Sum =>
 gN msA4 <|
 bd (
 ifB (decide ((0 : Int) ≤ By)) (
 bd (dR07N (.agg [.i .i64 F, .i .i64 T])) fun rA =>
 gI .i64 rA fun x1 =>
 ifB (decide (By < x1)) (
 ifB (decide ((1 : Int) ≤ Slot)) (
 some [.b (decide (Slot ≤ 100000))]) (
 some [.b false])) (
 some [.b false])) (
 some [.b false])) fun vs =>
 gC vs fun m5 msA5 =>
 gB m5 fun x2 =>
 gN msA5 <|
 some (.b x2)
theorem linkR26May (sA x : MV) : bodyK cxR26May [] none Try.f79 [sA, x] = dR26May sA x := by kernel_rfl
noncomputable def gR26May : Nat → List MV → Option MV := addG 79 (lst2 dR26May) gR07N
theorem soundR26May : SoundG Try.prog cx gR26May :=
  soundR07N.fn (c' := cxR26May) (caps := []) ⟨rfl, rfl, rfl, rfl, rfl, rfl⟩ rfl tab_ok eq_ok fk_ok mix_ok Try.func79 (by kernel_rfl) (fun _ => rfl) (lst2_of linkR26May)

noncomputable def cxR26Right : Ctx := ⟨lookT tiTab, kk, gR26May, gv, frs, lookN ftyOf, 65, [], [], lookL [], lookF fkTab, lookL [(6, [0, 1, 2, 3, 4, 5, 6, 7, 8, 9, 10, 11, 12, 13, 14, 15, 16, 17, 18, 19, 20, 21, 22, 23, 24, 25, 26, 27, 28])], lookH [(6, ⟨[1, 3], [], [], [(0, [(64, .sc (.k .b))])], []⟩), (1, ⟨[1], [], [], [(0, [(28, .sc (.k .b))])], []⟩)], lookH [], lookH [(4, ⟨[1], [], [(3, .sc (.k (.i .i64)))], [(1, [(2, .sc (.k .b))]), (2, [])], []⟩)]⟩
noncomputable def dR26Right (a : MV) : Option MV :=
 gA a fun cs =>
 gC cs fun m msA =>
 gI .i64 m fun SF =>
 gC msA fun m1 msA1 =>
 gI .i64 m1 fun ST =>
 gC msA1 fun m2 msA2 =>
 gL m2 fun L =>
 gC msA2 fun m3 msA3 =>
 gI .i64 m3 fun Stable =>
 gC msA3 fun m4 msA4 =>
 gH m4 fun Sum =>
 gN msA4 <|
 bd (
 bd (dR07Right (.agg [.i .i64 SF, .i .i64 ST])) fun rA =>
 gB rA fun x =>
 ifB (!x) (
 some [.b true]) (
 ifB (decide (Stable < 0)) (
 some [.b true]) (
 ifB (decide ((100000 : Int) < Stable)) (
 some [.b true]) (
 ifB (decide (Stable = 0)) (
 some [.b (!(decide (Sum = Hash.zero)))]) (
 some [.b false]))))) fun vs =>
 gC vs fun m5 msA5 =>
 gB m5 fun x1 =>
 gN msA5 <|
 ifB x1 (
 some (.b false)) (
 bd (Loop (fun msA6 =>
 gC msA6 fun m6 msA7 =>
 gI .i64 m6 fun x2 =>
 gN msA7 <|
 lenN L fun len =>
 ifB (decide (x2 < (len : Int))) (
 bd (
 idx L x2 fun y =>
 gA y fun cs1 =>
 gC cs1 fun m7 msA8 =>
 gI .i64 m7 fun By =>
 gC msA8 fun m8 msA9 =>
 gI .i64 m8 fun Slot =>
 gC msA9 fun m9 msA10 =>
 gH m9 fun Sum1 =>
 gN msA10 <|
 bd (dR26May (.agg [.i .i64 SF, .i .i64 ST]) (.agg [.i .i64 By, .i .i64 Slot, .h Sum1])) fun rA1 =>
 gB rA1 fun x3 =>
 ifB (!x3) (
 some [.b true]) (
 ifB (decide ((0 : Int) < x2)) (
 idx L (IntKind.wrap .i64 (x2 - 1)) fun y1 =>
 gA y1 fun cs2 =>
 gC cs2 fun m10 msA11 =>
 gI .i64 m10 fun By1 =>
 gC msA11 fun m11 msA12 =>
 gI .i64 m11 fun Slot1 =>
 gC msA12 fun m12 msA13 =>
 gH m12 fun Sum2 =>
 gN msA13 <|
 idx L x2 fun y2 =>
 gA y2 fun cs3 =>
 gC cs3 fun m13 msA14 =>
 gI .i64 m13 fun By2 =>
 gC msA14 fun m14 msA15 =>
 gI .i64 m14 fun Slot2 =>
 gC msA15 fun m15 msA16 =>
 gH m15 fun Sum3 =>
 gN msA16 <|
 some [.b (decide (By2 ≤ By1))]) (
 some [.b false]))) fun vs1 =>
 gC vs1 fun m16 msA17 =>
 gB m16 fun x4 =>
 gN msA17 <|
 ifB x4 (
 some (.inr (1, [.b false]))) (
 some (.inl [.i .i64 (IntKind.wrap .i64 (x2 + 1))]))) (
 some (.inr (2, [])))) [.i .i64 0]) fun p =>
 ifB (Nat.beq p.1 2) (
 gN p.2 <|
 some (.b true)) (
 chk (Nat.beq p.1 1) <|
 gC p.2 fun m17 msA18 =>
 gB m17 fun x5 =>
 gN msA18 <|
 some (.b x5)))
theorem linkR26Right (a : MV) : bodyK cxR26Right [] none Try.f44 [a] = dR26Right a := by kernel_rfl
noncomputable def gR26Right : Nat → List MV → Option MV := addG 44 (lst1 dR26Right) gR26May
theorem soundR26Right : SoundG Try.prog cx gR26Right :=
  soundR26May.fn (c' := cxR26Right) (caps := []) ⟨rfl, rfl, rfl, rfl, rfl, rfl⟩ rfl tab_ok eq_ok fk_ok mix_ok Try.func44 (by kernel_rfl) (fun _ => rfl) (lst1_of linkR26Right)

noncomputable def cxL26One : Ctx := ⟨lookT tiTab, kk, gR26Right, gv, frs, lookN ftyOf, 10, [], [], lookL [], lookF fkTab, lookL [], lookH [], lookH [], lookH []⟩
noncomputable def dL26One (x : MV) : Option MV :=
 gA x fun cs =>
 gC cs fun m msA =>
 gI .i64 m fun By =>
 gC msA fun m1 msA1 =>
 gI .i64 m1 fun Slot =>
 gC msA1 fun m2 msA2 =>
 gH m2 fun Sum =>
 gN msA2 <|
 some (.agg [.i .i64 By, .i .i64 Slot, .h Sum])
theorem linkL26One (x : MV) : bodyK cxL26One [] none Try.f49 [x] = dL26One x := by kernel_rfl
noncomputable def gL26One : Nat → List MV → Option MV := addG 49 (lst1 dL26One) gR26Right
theorem soundL26One : SoundG Try.prog cx gL26One :=
  soundR26Right.fn (c' := cxL26One) (caps := []) ⟨rfl, rfl, rfl, rfl, rfl, rfl⟩ rfl tab_ok eq_ok fk_ok mix_ok Try.func49 (by kernel_rfl) (fun _ => rfl) (lst1_of linkL26One)

noncomputable def cxL26Sized : Ctx := ⟨lookT tiTab, kk, gL26One, gv, frs, lookN ftyOf, 8, [], [], lookL [], lookF fkTab, lookL [], lookH [], lookH [], lookH []⟩
noncomputable def dL26Sized (sA : MV) : Option MV :=
 gA sA fun cs =>
 gC cs fun m msA =>
 gI .i64 m fun F =>
 gC msA fun m1 msA1 =>
 gI .i64 m1 fun T =>
 gN msA1 <|
 some (.agg [.i .i64 F, .i .i64 T])
theorem linkL26Sized (sA : MV) : bodyK cxL26Sized [] none Try.f66 [sA] = dL26Sized sA := by kernel_rfl
noncomputable def gL26Sized : Nat → List MV → Option MV := addG 66 (lst1 dL26Sized) gL26One
theorem soundL26Sized : SoundG Try.prog cx gL26Sized :=
  soundL26One.fn (c' := cxL26Sized) (caps := []) ⟨rfl, rfl, rfl, rfl, rfl, rfl⟩ rfl tab_ok eq_ok fk_ok mix_ok Try.func66 (by kernel_rfl) (fun _ => rfl) (lst1_of linkL26Sized)

noncomputable def cxL26Plain : Ctx := ⟨lookT tiTab, kk, gL26Sized, gv, frs, lookN ftyOf, 32, [28], [], lookL [], lookF fkTab, lookL [(1, [0, 1, 3, 4, 5, 6, 2, 7, 8, 9]), (5, [0, 1, 2, 3, 4, 5, 6, 7, 8, 9, 10, 11])], lookH [], lookH [], lookH [(3, ⟨[1, 2], [], [(3, .box [.k (.i .i64), .k (.i .i64), .own 29 99 true, .k (.i .i64), .k .h]), (4, .sc (.k (.i .i64)))], [(2, [(3, .box [.k (.i .i64), .k (.i .i64), .own 29 99 true, .k (.i .i64), .k .h])])], [28, 29]⟩)]⟩
noncomputable def dL26Plain (m : MV) : Option MV :=
 gA m fun cs =>
 gC cs fun m1 msA =>
 gI .i64 m1 fun SF =>
 gC msA fun m2 msA1 =>
 gI .i64 m2 fun ST =>
 gC msA1 fun m3 msA2 =>
 gL m3 fun L =>
 gC msA2 fun m4 msA3 =>
 gI .i64 m4 fun Stable =>
 gC msA3 fun m5 msA4 =>
 gH m5 fun Sum =>
 gN msA4 <|
 bd (dL26Sized (.agg [.i .i64 SF, .i .i64 ST])) fun rA =>
 gA rA fun cs1 =>
 gC cs1 fun m6 msA5 =>
 gI .i64 m6 fun F =>
 gC msA5 fun m7 msA6 =>
 gI .i64 m7 fun T =>
 gN msA6 <|
 bd (Loop (fun msA7 =>
 gC msA7 fun m8 msA8 =>
 gI .i64 m8 fun out =>
 gC msA8 fun m9 msA9 =>
 gI .i64 m9 fun out1 =>
 gC msA9 fun m10 msA10 =>
 gL m10 fun out2 =>
 gC msA10 fun m11 msA11 =>
 gI .i64 m11 fun out3 =>
 gC msA11 fun m12 msA12 =>
 gH m12 fun out4 =>
 gC msA12 fun m13 msA13 =>
 gI .i64 m13 fun i =>
 gN msA13 <|
 lenN L fun len =>
 ifB (decide (i < (len : Int))) (
 idx L i fun y =>
 gA y fun cs2 =>
 gC cs2 fun m14 msA14 =>
 gI .i64 m14 fun By =>
 gC msA14 fun m15 msA15 =>
 gI .i64 m15 fun Slot =>
 gC msA15 fun m16 msA16 =>
 gH m16 fun Sum1 =>
 gN msA16 <|
 bd (dL26One (.agg [.i .i64 By, .i .i64 Slot, .h Sum1])) fun rA1 =>
 gA rA1 fun cs3 =>
 gC cs3 fun m17 msA17 =>
 gI .i64 m17 fun By1 =>
 gC msA17 fun m18 msA18 =>
 gI .i64 m18 fun Slot1 =>
 gC msA18 fun m19 msA19 =>
 gH m19 fun Sum2 =>
 gN msA19 <|
 lenN out2 fun len1 =>
 lenN ([.agg [.i .i64 By1, .i .i64 Slot1, .h Sum2]] : List MV) fun len2 =>
 chk (decide ((len1 + len2) * 48 ≤ 2 ^ 46)) <|
 some (.inl [.i .i64 out, .i .i64 out1, .list (out2 ++ ([.agg [.i .i64 By1, .i .i64 Slot1, .h Sum2]] : List MV)), .i .i64 out3, .h out4, .i .i64 (IntKind.wrap .i64 (i + 1))])) (
 some (.inr (2, [.i .i64 out, .i .i64 out1, .list out2, .i .i64 out3, .h out4])))) [.i .i64 F, .i .i64 T, .list ([] : List MV), .i .i64 Stable, .h Sum, .i .i64 0]) fun p =>
 chk (Nat.beq p.1 2) <|
 gC p.2 fun m20 msA20 =>
 gI .i64 m20 fun out5 =>
 gC msA20 fun m21 msA21 =>
 gI .i64 m21 fun out6 =>
 gC msA21 fun m22 msA22 =>
 gL m22 fun out7 =>
 gC msA22 fun m23 msA23 =>
 gI .i64 m23 fun out8 =>
 gC msA23 fun m24 msA24 =>
 gH m24 fun out9 =>
 gN msA24 <|
 some (.agg [.i .i64 out5, .i .i64 out6, .list out7, .i .i64 out8, .h out9])
theorem linkL26Plain (m : MV) : bodyK cxL26Plain [] none Try.f45 [m] = dL26Plain m := by kernel_rfl
noncomputable def gL26Plain : Nat → List MV → Option MV := addG 45 (lst1 dL26Plain) gL26Sized
theorem soundL26Plain : SoundG Try.prog cx gL26Plain :=
  soundL26Sized.fn (c' := cxL26Plain) (caps := []) ⟨rfl, rfl, rfl, rfl, rfl, rfl⟩ rfl tab_ok eq_ok fk_ok mix_ok Try.func45 (by kernel_rfl) (fun _ => rfl) (lst1_of linkL26Plain)

noncomputable def cxCmpIsNaNInt : Ctx := ⟨lookT tiTab, kk, gL26Plain, gv, frs, lookN ftyOf, 6, [], [], lookL [], lookF fkTab, lookL [], lookH [], lookH [], lookH []⟩
noncomputable def dCmpIsNaNInt (x : MV) : Option MV :=
 gI .i64 x fun x1 =>
 some (.b (!decide (x1 = x1)))
theorem linkCmpIsNaNInt (x : MV) : bodyK cxCmpIsNaNInt [] none Try.f102 [x] = dCmpIsNaNInt x := by kernel_rfl
noncomputable def gCmpIsNaNInt : Nat → List MV → Option MV := addG 102 (lst1 dCmpIsNaNInt) gL26Plain
theorem soundCmpIsNaNInt : SoundG Try.prog cx gCmpIsNaNInt :=
  soundL26Plain.fn (c' := cxCmpIsNaNInt) (caps := []) ⟨rfl, rfl, rfl, rfl, rfl, rfl⟩ rfl tab_ok eq_ok fk_ok mix_ok Try.func102 (by kernel_rfl) (fun _ => rfl) (lst1_of linkCmpIsNaNInt)

noncomputable def cxCmpCompareInt : Ctx := ⟨lookT tiTab, kk, gCmpIsNaNInt, gv, frs, lookN ftyOf, 20, [], [], lookL [], lookF fkTab, lookL [], lookH [], lookH [], lookH []⟩
noncomputable def dCmpCompareInt (x y : MV) : Option MV :=
 gI .i64 x fun x1 =>
 gI .i64 y fun y1 =>
 bd (dCmpIsNaNInt (.i .i64 x1)) fun rA =>
 gB rA fun x2 =>
 bd (dCmpIsNaNInt (.i .i64 y1)) fun rA1 =>
 gB rA1 fun x3 =>
 ifB x2 (
 ifB x3 (
 some (.i .i64 0)) (
 some (.i .i64 (-1)))) (
 ifB x3 (
 some (.i .i64 1)) (
 ifB (decide (x1 < y1)) (
 some (.i .i64 (-1))) (
 ifB (decide (y1 < x1)) (
 some (.i .i64 1)) (
 some (.i .i64 0)))))
theorem linkCmpCompareInt (x y : MV) : bodyK cxCmpCompareInt [] none Try.f74 [x, y] = dCmpCompareInt x y := by kernel_rfl
noncomputable def gCmpCompareInt : Nat → List MV → Option MV := addG 74 (lst2 dCmpCompareInt) gCmpIsNaNInt
theorem soundCmpCompareInt : SoundG Try.prog cx gCmpCompareInt :=
  soundCmpIsNaNInt.fn (c' := cxCmpCompareInt) (caps := []) ⟨rfl, rfl, rfl, rfl, rfl, rfl⟩ rfl tab_ok eq_ok fk_ok mix_ok Try.func74 (by kernel_rfl) (fun _ => rfl) (lst2_of linkCmpCompareInt)

noncomputable def cxMarkHearF1 : Ctx := ⟨lookT tiTab, kk, gCmpCompareInt, gv, frs, lookN ftyOf, 9, [], [], lookL [], lookF fkTab, lookL [], lookH [], lookH [], lookH []⟩
noncomputable def dMarkHearF1 (y byA : MV) : Option MV :=
 gA y fun cs =>
 gC cs fun m msA =>
 gI .i64 m fun By =>
 gC msA fun m1 msA1 =>
 gI .i64 m1 fun Slot =>
 gC msA1 fun m2 msA2 =>
 gH m2 fun Sum =>
 gN msA2 <|
 gI .i64 byA fun byA1 =>
 bd (dCmpCompareInt (.i .i64 By) (.i .i64 byA1)) fun rA =>
 gI .i64 rA fun x =>
 some (.i .i64 x)
theorem linkMarkHearF1 (y byA : MV) : bodyK cxMarkHearF1 [] none Try.f81 [y, byA] = dMarkHearF1 y byA := by kernel_rfl
noncomputable def gMarkHearF1 : Nat → List MV → Option MV := addG 81 (lst2 dMarkHearF1) gCmpCompareInt
theorem soundMarkHearF1 : SoundG Try.prog cx gMarkHearF1 :=
  soundCmpCompareInt.fn (c' := cxMarkHearF1) (caps := []) ⟨rfl, rfl, rfl, rfl, rfl, rfl⟩ rfl tab_ok eq_ok fk_ok mix_ok Try.func81 (by kernel_rfl) (fun _ => rfl) (lst2_of linkMarkHearF1)
noncomputable def preSlicesBinarySearchFuncMarkMarkInt : Nat → List MV → Option MV := gMarkHearF1
theorem atSlicesBinarySearchFuncMarkMarkIntMarkHearF1 (x0 x1 : MV) : preSlicesBinarySearchFuncMarkMarkInt 81 [x0, x1] = dMarkHearF1 x0 x1 := by kernel_rfl

noncomputable def cxSlicesBinarySearchFuncMarkMarkInt : Ctx := ⟨lookT tiTab, kk, gMarkHearF1, gv, frs, lookN ftyOf, 49, [], [], lookL [], lookF fkTab, lookL [], lookH [(8, ⟨[0, 1, 2, 8, 9], [], [], [(0, [(6, .sc (.k (.i .i64))), (7, .sc (.k .b))])], []⟩)], lookH [(6, ⟨[0, 1, 2, 8, 11], [], [], [(0, [(9, .sc (.k (.i .i64))), (10, .sc (.k (.i .i64)))])], []⟩)], lookH [(3, ⟨[0, 1, 2, 8], [], [(9, .sc (.k (.i .i64))), (10, .sc (.k (.i .i64)))], [(2, [(9, .sc (.k (.i .i64)))])], []⟩)]⟩
noncomputable def dSlicesBinarySearchFuncMarkMarkInt (x target cmp : MV) : Option MV :=
 gL x fun x1 =>
 gI .i64 target fun target1 =>
 gR cmp fun cmp1 =>
 lenN x1 fun len =>
 bd (Loop (fun msA =>
 gC msA fun m msA1 =>
 gI .i64 m fun i =>
 gC msA1 fun m1 msA2 =>
 gI .i64 m1 fun j =>
 gN msA2 <|
 ifB (decide (i < j)) (
 chk (decide ((0 : Int) ≤ 1)) <|
 idx x1 (IntKind.wrap .i64 (Int.fdiv (IntKind.wrap .u64 (IntKind.wrap .i64 (i + j))) (2 ^ min (Int.toNat 1) (IntKind.bits .u64)))) fun y =>
 gA y fun cs =>
 gC cs fun m2 msA3 =>
 gI .i64 m2 fun By =>
 gC msA3 fun m3 msA4 =>
 gI .i64 m3 fun Slot =>
 gC msA4 fun m4 msA5 =>
 gH m4 fun Sum =>
 gN msA5 <|
 gFn cmp1 fun fn cap =>
 chk (!gv fn) <|
 bd (preSlicesBinarySearchFuncMarkMarkInt fn ([.agg [.i .i64 By, .i .i64 Slot, .h Sum], .i .i64 target1] ++ cap)) fun rA =>
 gI .i64 rA fun x2 =>
 bd (
 ifB (decide (x2 < 0)) (
 some (0, [.i .i64 (IntKind.wrap .i64 ((IntKind.wrap .i64 (Int.fdiv (IntKind.wrap .u64 (IntKind.wrap .i64 (i + j))) (2 ^ min (Int.toNat 1) (IntKind.bits .u64)))) + 1)), .i .i64 j])) (
 some (0, [.i .i64 i, .i .i64 (IntKind.wrap .i64 (Int.fdiv (IntKind.wrap .u64 (IntKind.wrap .i64 (i + j))) (2 ^ min (Int.toNat 1) (IntKind.bits .u64))))]))) fun p1 =>
 chk (Nat.beq p1.1 0) <|
 gC p1.2 fun m5 msA6 =>
 gI .i64 m5 fun i1 =>
 gC msA6 fun m6 msA7 =>
 gI .i64 m6 fun j1 =>
 gN msA7 <|
 some (.inl [.i .i64 i1, .i .i64 j1])) (
 some (.inr (2, [.i .i64 i])))) [.i .i64 0, .i .i64 (len : Int)]) fun p =>
 chk (Nat.beq p.1 2) <|
 gC p.2 fun m7 msA8 =>
 gI .i64 m7 fun i2 =>
 gN msA8 <|
 bd (
 ifB (decide (i2 < (len : Int))) (
 idx x1 i2 fun y1 =>
 gA y1 fun cs1 =>
 gC cs1 fun m8 msA9 =>
 gI .i64 m8 fun By1 =>
 gC msA9 fun m9 msA10 =>
 gI .i64 m9 fun Slot1 =>
 gC msA10 fun m10 msA11 =>
 gH m10 fun Sum1 =>
 gN msA11 <|
 gFn cmp1 fun fn1 cap1 =>
 chk (!gv fn1) <|
 bd (preSlicesBinarySearchFuncMarkMarkInt fn1 ([.agg [.i .i64 By1, .i .i64 Slot1, .h Sum1], .i .i64 target1] ++ cap1)) fun rA1 =>
 gI .i64 rA1 fun x3 =>
 some [.i .i64 i2, .b (decide (x3 = 0))]) (
 some [.i .i64 i2, .b false])) fun vs =>
 gC vs fun m11 msA12 =>
 gI .i64 m11 fun x4 =>
 gC msA12 fun m12 msA13 =>
 gB m12 fun x5 =>
 gN msA13 <|
 some (.tup [.i .i64 x4, .b x5])
theorem linkSlicesBinarySearchFuncMarkMarkInt (x target cmp : MV) : bodyK cxSlicesBinarySearchFuncMarkMarkInt [] none Try.f80 [x, target, cmp] = dSlicesBinarySearchFuncMarkMarkInt x target cmp := by kernel_rfl
noncomputable def gSlicesBinarySearchFuncMarkMarkInt : Nat → List MV → Option MV := addG 80 (lst3 dSlicesBinarySearchFuncMarkMarkInt) gMarkHearF1
theorem soundSlicesBinarySearchFuncMarkMarkInt : SoundG Try.prog cx gSlicesBinarySearchFuncMarkMarkInt :=
  soundMarkHearF1.fn (c' := cxSlicesBinarySearchFuncMarkMarkInt) (caps := []) ⟨rfl, rfl, rfl, rfl, rfl, rfl⟩ rfl tab_ok eq_ok fk_ok mix_ok Try.func80 (by kernel_rfl) (fun _ => rfl) (lst3_of linkSlicesBinarySearchFuncMarkMarkInt)

noncomputable def cxSizeSizePair : Ctx := ⟨lookT tiTab, kk, gSlicesBinarySearchFuncMarkMarkInt, gv, frs, lookN ftyOf, 10, [], [], lookL [], lookF fkTab, lookL [], lookH [], lookH [], lookH []⟩
noncomputable def dSizeSizePair (sA : MV) : Option MV :=
 gA sA fun cs =>
 gC cs fun m msA =>
 gI .i64 m fun F =>
 gC msA fun m1 msA1 =>
 gI .i64 m1 fun T =>
 gN msA1 <|
 some (.raw (.complex .f64 (FloatKind.nearest .f64 F) (FloatKind.nearest .f64 T)))
theorem linkSizeSizePair (sA : MV) : bodyK cxSizeSizePair [] none Try.f109 [sA] = dSizeSizePair sA := by kernel_rfl
noncomputable def gSizeSizePair : Nat → List MV → Option MV := addG 109 (lst1 dSizeSizePair) gSlicesBinarySearchFuncMarkMarkInt
theorem soundSizeSizePair : SoundG Try.prog cx gSizeSizePair :=
  soundSlicesBinarySearchFuncMarkMarkInt.fn (c' := cxSizeSizePair) (caps := []) ⟨rfl, rfl, rfl, rfl, rfl, rfl⟩ rfl tab_ok eq_ok fk_ok mix_ok Try.func109 (by kernel_rfl) (fun _ => rfl) (lst1_of linkSizeSizePair)

noncomputable def cxSizeSizeOf : Ctx := ⟨lookT tiTab, kk, gSizeSizePair, gv, frs, lookN ftyOf, 21, [], [], lookL [], lookF fkTab, lookL [], lookH [], lookH [], lookH []⟩
noncomputable def dSizeSizeOf (sA times : MV) : Option MV :=
 gA sA fun cs =>
 gC cs fun m msA =>
 gI .i64 m fun F =>
 gC msA fun m1 msA1 =>
 gI .i64 m1 fun T =>
 gN msA1 <|
 gR times fun times1 =>
 bd (dSizeSizePair (.agg [.i .i64 F, .i .i64 T])) fun rA =>
 gR rA fun x =>
 gCx x fun re im =>
 gCx times1 fun re1 im1 =>
 bd (FloatKind.f64.format.mul re re1) fun f =>
 gCx x fun re2 im2 =>
 gCx times1 fun re3 im3 =>
 bd (FloatKind.f64.format.mul im2 im3) fun f1 =>
 bd (FloatKind.f64.format.add f f1) fun f2 =>
 bd ((FloatKind.decode .f64 f2).toInt .zero) fun n =>
 chk (decide (IntKind.min .i64 ≤ n ∧ n ≤ IntKind.max .i64)) <|
 some (.i .i64 (IntKind.wrap .i64 (n + 1)))
theorem linkSizeSizeOf (sA times : MV) : bodyK cxSizeSizeOf [] none Try.f94 [sA, times] = dSizeSizeOf sA times := by kernel_rfl
noncomputable def gSizeSizeOf : Nat → List MV → Option MV := addG 94 (lst2 dSizeSizeOf) gSizeSizePair
theorem soundSizeSizeOf : SoundG Try.prog cx gSizeSizeOf :=
  soundSizeSizePair.fn (c' := cxSizeSizeOf) (caps := []) ⟨rfl, rfl, rfl, rfl, rfl, rfl⟩ rfl tab_ok eq_ok fk_ok mix_ok Try.func94 (by kernel_rfl) (fun _ => rfl) (lst2_of linkSizeSizeOf)

noncomputable def cxSizeN : Ctx := ⟨lookT tiTab, kk, gSizeSizeOf, gv, frs, lookN ftyOf, 5, [], [], lookL [], lookF fkTab, lookL [], lookH [], lookH [], lookH []⟩
noncomputable def dSizeN (sA : MV) : Option MV :=
 gA sA fun cs =>
 gC cs fun m msA =>
 gI .i64 m fun F =>
 gC msA fun m1 msA1 =>
 gI .i64 m1 fun T =>
 gN msA1 <|
 bd (dSizeSizeOf (.agg [.i .i64 F, .i .i64 T]) (.raw (.complex .f64 4613937818241073152 4611686018427387904))) fun rA =>
 gI .i64 rA fun x =>
 some (.i .i64 x)
theorem linkSizeN (sA : MV) : bodyK cxSizeN [] none Try.f56 [sA] = dSizeN sA := by kernel_rfl
noncomputable def gSizeN : Nat → List MV → Option MV := addG 56 (lst1 dSizeN) gSizeSizeOf
theorem soundSizeN : SoundG Try.prog cx gSizeN :=
  soundSizeSizeOf.fn (c' := cxSizeN) (caps := []) ⟨rfl, rfl, rfl, rfl, rfl, rfl⟩ rfl tab_ok eq_ok fk_ok mix_ok Try.func56 (by kernel_rfl) (fun _ => rfl) (lst1_of linkSizeN)

noncomputable def cxMarkMarksMay : Ctx := ⟨lookT tiTab, kk, gSizeN, gv, frs, lookN ftyOf, 26, [], [], lookL [], lookF fkTab, lookL [(1, [0, 1, 2, 3, 4, 5, 6, 7, 8, 9, 10, 11, 12, 13, 14, 15, 16, 17, 18, 19, 20, 21])], lookH [(1, ⟨[2, 3], [], [], [(0, [(4, .sc (.k .b))])], []⟩)], lookH [], lookH []⟩
noncomputable def dMarkMarksMay (m x : MV) : Option MV :=
 gA m fun cs =>
 gC cs fun m1 msA =>
 gI .i64 m1 fun SF =>
 gC msA fun m2 msA1 =>
 gI .i64 m2 fun ST =>
 gC msA1 fun m3 msA2 =>
 gL m3 fun L =>
 gC msA2 fun m4 msA3 =>
 gI .i64 m4 fun Stable =>
 gC msA3 fun m5 msA4 =>
 gH m5 fun Sum =>
 gN msA4 <|
 gA x fun cs1 =>
 gC cs1 fun m6 msA5 =>
 gI .i64 m6 fun By =>
 gC msA5 fun m7 msA6 =>
 gI .i64 m7 fun Slot =>
 gC msA6 fun m8 msA7 =>
 gH m8 fun Sum1 =>
 gN msA7 <|
 bd (
 ifB (decide ((0 : Int) ≤ By)) (
 bd (dSizeN (.agg [.i .i64 SF, .i .i64 ST])) fun rA =>
 gI .i64 rA fun x1 =>
 ifB (decide (By < x1)) (
 ifB (decide ((1 : Int) ≤ Slot)) (
 some [.b (decide (Slot ≤ 100000))]) (
 some [.b false])) (
 some [.b false])) (
 some [.b false])) fun vs =>
 gC vs fun m9 msA8 =>
 gB m9 fun x2 =>
 gN msA8 <|
 some (.b x2)
theorem linkMarkMarksMay (m x : MV) : bodyK cxMarkMarksMay [] none Try.f82 [m, x] = dMarkMarksMay m x := by kernel_rfl
noncomputable def gMarkMarksMay : Nat → List MV → Option MV := addG 82 (lst2 dMarkMarksMay) gSizeN
theorem soundMarkMarksMay : SoundG Try.prog cx gMarkMarksMay :=
  soundSizeN.fn (c' := cxMarkMarksMay) (caps := []) ⟨rfl, rfl, rfl, rfl, rfl, rfl⟩ rfl tab_ok eq_ok fk_ok mix_ok Try.func82 (by kernel_rfl) (fun _ => rfl) (lst2_of linkMarkMarksMay)

noncomputable def cxMarkBehindF1 : Ctx := ⟨lookT tiTab, kk, gMarkMarksMay, gv, frs, lookN ftyOf, 8, [], [], lookL [], lookF fkTab, lookL [], lookH [], lookH [], lookH []⟩
noncomputable def dMarkBehindF1 (x c : MV) : Option MV :=
 gA x fun cs =>
 gC cs fun m msA =>
 gI .i64 m fun By =>
 gC msA fun m1 msA1 =>
 gI .i64 m1 fun Slot =>
 gC msA1 fun m2 msA2 =>
 gH m2 fun Sum =>
 gN msA2 <|
 gP c fun cs1 =>
 gC cs1 fun m3 msA3 =>
 gI .i64 m3 fun x1 =>
 gN msA3 <|
 some (.b (decide (x1 ≤ Slot)))
theorem linkMarkBehindF1 (x c : MV) : bodyK cxMarkBehindF1 [[.i .i64]] none Try.f92 [x, c] = dMarkBehindF1 x c := by kernel_rfl
noncomputable def gMarkBehindF1 : Nat → List MV → Option MV := addG 92 (lst2 dMarkBehindF1) gMarkMarksMay
theorem soundMarkBehindF1 : SoundG Try.prog cx gMarkBehindF1 :=
  soundMarkMarksMay.fn (c' := cxMarkBehindF1) (caps := [[.i .i64]]) ⟨rfl, rfl, rfl, rfl, rfl, rfl⟩ rfl tab_ok eq_ok fk_ok mix_ok Try.func92 (by kernel_rfl) (fun _ => rfl) (lst2_of linkMarkBehindF1)

noncomputable def cxMarkMarksSayF1 : Ctx := ⟨lookT tiTab, kk, gMarkBehindF1, gv, frs, lookN ftyOf, 15, [], [], lookL [], lookF fkTab, lookL [], lookH [(1, ⟨[1, 2, 3], [], [], [(0, [(4, .sc (.k .b))])], []⟩)], lookH [], lookH []⟩
noncomputable def dMarkMarksSayF1 (x c c1 : MV) : Option MV :=
 gA x fun cs =>
 gC cs fun m msA =>
 gI .i64 m fun By =>
 gC msA fun m1 msA1 =>
 gI .i64 m1 fun Slot =>
 gC msA1 fun m2 msA2 =>
 gH m2 fun Sum =>
 gN msA2 <|
 gP c fun cs1 =>
 gC cs1 fun m3 msA3 =>
 gI .i64 m3 fun x1 =>
 gN msA3 <|
 gP c1 fun cs2 =>
 gC cs2 fun m4 msA4 =>
 gH m4 fun x2 =>
 gN msA4 <|
 bd (
 ifB (decide (Slot = x1)) (
 some [.b (decide (Sum = x2))]) (
 some [.b false])) fun vs =>
 gC vs fun m5 msA5 =>
 gB m5 fun x3 =>
 gN msA5 <|
 some (.b x3)
theorem linkMarkMarksSayF1 (x c c1 : MV) : bodyK cxMarkMarksSayF1 [[.i .i64], [.h]] none Try.f108 [x, c, c1] = dMarkMarksSayF1 x c c1 := by kernel_rfl
noncomputable def gMarkMarksSayF1 : Nat → List MV → Option MV := addG 108 (lst3 dMarkMarksSayF1) gMarkBehindF1
theorem soundMarkMarksSayF1 : SoundG Try.prog cx gMarkMarksSayF1 :=
  soundMarkBehindF1.fn (c' := cxMarkMarksSayF1) (caps := [[.i .i64], [.h]]) ⟨rfl, rfl, rfl, rfl, rfl, rfl⟩ rfl tab_ok eq_ok fk_ok mix_ok Try.func108 (by kernel_rfl) (fun _ => rfl) (lst3_of linkMarkMarksSayF1)
noncomputable def preMarkMarksCount : Nat → List MV → Option MV := gMarkMarksSayF1
theorem atMarkMarksCountMarkBehindF1 (x0 x1 : MV) : preMarkMarksCount 92 [x0, x1] = dMarkBehindF1 x0 x1 := by kernel_rfl
theorem atMarkMarksCountMarkMarksSayF1 (x0 x1 x2 : MV) : preMarkMarksCount 108 [x0, x1, x2] = dMarkMarksSayF1 x0 x1 x2 := by kernel_rfl

noncomputable def cxMarkMarksCount : Ctx := ⟨lookT tiTab, kk, gMarkMarksSayF1, gv, frs, lookN ftyOf, 22, [], [], lookL [], lookF fkTab, lookL [], lookH [], lookH [(6, ⟨[1, 9, 10, 11], [], [], [(0, [(5, .sc (.k (.i .i64)))])], []⟩)], lookH [(3, ⟨[1, 9, 10], [], [(5, .sc (.k (.i .i64))), (11, .sc (.k (.i .i64)))], [(2, [(5, .sc (.k (.i .i64)))])], []⟩)]⟩
noncomputable def dMarkMarksCount (m isA : MV) : Option MV :=
 gA m fun cs =>
 gC cs fun m1 msA =>
 gI .i64 m1 fun SF =>
 gC msA fun m2 msA1 =>
 gI .i64 m2 fun ST =>
 gC msA1 fun m3 msA2 =>
 gL m3 fun L =>
 gC msA2 fun m4 msA3 =>
 gI .i64 m4 fun Stable =>
 gC msA3 fun m5 msA4 =>
 gH m5 fun Sum =>
 gN msA4 <|
 gR isA fun isA1 =>
 lenN L fun len =>
 bd (Loop (fun msA5 =>
 gC msA5 fun m6 msA6 =>
 gI .i64 m6 fun n =>
 gC msA6 fun m7 msA7 =>
 gI .i64 m7 fun x =>
 gN msA7 <|
 ifB (decide (x < (len : Int))) (
 idx L x fun y =>
 gA y fun cs1 =>
 gC cs1 fun m8 msA8 =>
 gI .i64 m8 fun By =>
 gC msA8 fun m9 msA9 =>
 gI .i64 m9 fun Slot =>
 gC msA9 fun m10 msA10 =>
 gH m10 fun Sum1 =>
 gN msA10 <|
 gFn isA1 fun fn cap =>
 chk (!gv fn) <|
 bd (preMarkMarksCount fn ([.agg [.i .i64 By, .i .i64 Slot, .h Sum1]] ++ cap)) fun rA =>
 gB rA fun x1 =>
 bd (
 ifB x1 (
 some (0, [.i .i64 (IntKind.wrap .i64 (n + 1))])) (
 some (0, [.i .i64 n]))) fun p1 =>
 chk (Nat.beq p1.1 0) <|
 gC p1.2 fun m11 msA11 =>
 gI .i64 m11 fun n1 =>
 gN msA11 <|
 some (.inl [.i .i64 n1, .i .i64 (IntKind.wrap .i64 (x + 1))])) (
 some (.inr (2, [.i .i64 n])))) [.i .i64 0, .i .i64 0]) fun p =>
 chk (Nat.beq p.1 2) <|
 gC p.2 fun m12 msA12 =>
 gI .i64 m12 fun n2 =>
 gN msA12 <|
 some (.i .i64 n2)
theorem linkMarkMarksCount (m isA : MV) : bodyK cxMarkMarksCount [] none Try.f91 [m, isA] = dMarkMarksCount m isA := by kernel_rfl
noncomputable def gMarkMarksCount : Nat → List MV → Option MV := addG 91 (lst2 dMarkMarksCount) gMarkMarksSayF1
theorem soundMarkMarksCount : SoundG Try.prog cx gMarkMarksCount :=
  soundMarkMarksSayF1.fn (c' := cxMarkMarksCount) (caps := []) ⟨rfl, rfl, rfl, rfl, rfl, rfl⟩ rfl tab_ok eq_ok fk_ok mix_ok Try.func91 (by kernel_rfl) (fun _ => rfl) (lst2_of linkMarkMarksCount)

noncomputable def cxMarkMarksSay : Ctx := ⟨lookT tiTab, kk, gMarkMarksCount, gv, frs, lookN ftyOf, 10, [], [], lookL [], lookF fkTab, lookL [], lookH [], lookH [], lookH []⟩
noncomputable def dMarkMarksSay (m slot sum : MV) : Option MV :=
 gA m fun cs =>
 gC cs fun m1 msA =>
 gI .i64 m1 fun SF =>
 gC msA fun m2 msA1 =>
 gI .i64 m2 fun ST =>
 gC msA1 fun m3 msA2 =>
 gL m3 fun L =>
 gC msA2 fun m4 msA3 =>
 gI .i64 m4 fun Stable =>
 gC msA3 fun m5 msA4 =>
 gH m5 fun Sum =>
 gN msA4 <|
 gI .i64 slot fun slot1 =>
 gH sum fun sum1 =>
 bd (dMarkMarksCount (.agg [.i .i64 SF, .i .i64 ST, .list L, .i .i64 Stable, .h Sum]) (.func 108 [.rp [.i .i64 slot1], .rp [.h sum1]])) fun rA =>
 gI .i64 rA fun x =>
 some (.i .i64 x)
theorem linkMarkMarksSay (m slot sum : MV) : bodyK cxMarkMarksSay [] none Try.f85 [m, slot, sum] = dMarkMarksSay m slot sum := by kernel_rfl
noncomputable def gMarkMarksSay : Nat → List MV → Option MV := addG 85 (lst3 dMarkMarksSay) gMarkMarksCount
theorem soundMarkMarksSay : SoundG Try.prog cx gMarkMarksSay :=
  soundMarkMarksCount.fn (c' := cxMarkMarksSay) (caps := []) ⟨rfl, rfl, rfl, rfl, rfl, rfl⟩ rfl tab_ok eq_ok fk_ok mix_ok Try.func85 (by kernel_rfl) (fun _ => rfl) (lst3_of linkMarkMarksSay)

noncomputable def cxSizeProof : Ctx := ⟨lookT tiTab, kk, gMarkMarksSay, gv, frs, lookN ftyOf, 5, [], [], lookL [], lookF fkTab, lookL [], lookH [], lookH [], lookH []⟩
noncomputable def dSizeProof (sA : MV) : Option MV :=
 gA sA fun cs =>
 gC cs fun m msA =>
 gI .i64 m fun F =>
 gC msA fun m1 msA1 =>
 gI .i64 m1 fun T =>
 gN msA1 <|
 bd (dSizeSizeOf (.agg [.i .i64 F, .i .i64 T]) (.raw (.complex .f64 4611686018427387904 4607182418800017408))) fun rA =>
 gI .i64 rA fun x =>
 some (.i .i64 x)
theorem linkSizeProof (sA : MV) : bodyK cxSizeProof [] none Try.f86 [sA] = dSizeProof sA := by kernel_rfl
noncomputable def gSizeProof : Nat → List MV → Option MV := addG 86 (lst1 dSizeProof) gMarkMarksSay
theorem soundSizeProof : SoundG Try.prog cx gSizeProof :=
  soundMarkMarksSay.fn (c' := cxSizeProof) (caps := []) ⟨rfl, rfl, rfl, rfl, rfl, rfl⟩ rfl tab_ok eq_ok fk_ok mix_ok Try.func86 (by kernel_rfl) (fun _ => rfl) (lst1_of linkSizeProof)

noncomputable def cxMarkHear : Ctx := ⟨lookT tiTab, kk, gSizeProof, gv, frs, lookN ftyOf, 77, [], [73], lookL [(1, [3])], lookF fkTab, lookL [(2, [0, 1, 2, 3, 4, 5, 6, 7, 8, 9, 10, 11, 12, 13, 14, 15, 16, 17]), (8, [0, 1, 2, 3, 4, 5, 6, 7, 8, 9, 10, 12, 13, 11, 14, 15, 16]), (10, [0, 1, 2, 3, 4, 5, 6, 7])], lookH [(8, ⟨[2, 3, 4], [37, 50], [], [(0, [(68, .sc (.k .b))])], [37, 49, 50]⟩), (2, ⟨[2, 3, 4, 6, 7], [], [], [(0, [(33, .sc (.k .b))])], [49, 50]⟩)], lookH [(6, ⟨[3, 4, 6], [], [], [(0, [(2, .box [.k (.i .i64), .k (.i .i64), .own 37 88 false, .k (.i .i64), .k .h])])], [49, 50]⟩)], lookH []⟩
noncomputable def dMarkHear (a a1 : MV) : Option MV :=
 gA a fun cs =>
 gC cs fun m msA =>
 gI .i64 m fun SF =>
 gC msA fun m1 msA1 =>
 gI .i64 m1 fun ST =>
 gC msA1 fun m2 msA2 =>
 gL m2 fun L =>
 gC msA2 fun m3 msA3 =>
 gI .i64 m3 fun Stable =>
 gC msA3 fun m4 msA4 =>
 gH m4 fun Sum =>
 gN msA4 <|
 gA a1 fun cs1 =>
 gC cs1 fun m5 msA5 =>
 gI .i64 m5 fun By =>
 gC msA5 fun m6 msA6 =>
 gI .i64 m6 fun Slot =>
 gC msA6 fun m7 msA7 =>
 gH m7 fun Sum1 =>
 gN msA7 <|
 bd (dSlicesBinarySearchFuncMarkMarkInt (.list L) (.i .i64 By) (.func 81 [])) fun rA =>
 gT rA fun vs =>
 gC vs fun m8 msA8 =>
 gI .i64 m8 fun x =>
 gC msA8 fun m9 msA9 =>
 gB m9 fun x1 =>
 gN msA9 <|
 bd (
 bd (dMarkMarksMay (.agg [.i .i64 SF, .i .i64 ST, .list L, .i .i64 Stable, .h Sum]) (.agg [.i .i64 By, .i .i64 Slot, .h Sum1])) fun rA1 =>
 gB rA1 fun x2 =>
 ifB (!x2) (
 some [.b true]) (
 ifB x1 (
 idx L x fun y =>
 gA y fun cs2 =>
 gC cs2 fun m10 msA10 =>
 gI .i64 m10 fun By1 =>
 gC msA10 fun m11 msA11 =>
 gI .i64 m11 fun Slot1 =>
 gC msA11 fun m12 msA12 =>
 gH m12 fun Sum2 =>
 gN msA12 <|
 some [.b (decide (Slot ≤ Slot1))]) (
 some [.b false]))) fun vs1 =>
 gC vs1 fun m13 msA13 =>
 gB m13 fun x3 =>
 gN msA13 <|
 ifB x3 (
 some (.tup [.agg [.i .i64 SF, .i .i64 ST, .list L, .i .i64 Stable, .h Sum], .b false])) (
 bd (cloneF 34 48 [.list L]) fun rA2 =>
 gF rA2 fun xs =>
 bd (
 ifB x1 (
 idx xs x fun y1 =>
 gA y1 fun cs3 =>
 gC cs3 fun m14 msA14 =>
 gI .i64 m14 fun By2 =>
 gC msA14 fun m15 msA15 =>
 gI .i64 m15 fun Slot2 =>
 gC msA15 fun m16 msA16 =>
 gH m16 fun Sum3 =>
 gN msA16 <|
 some (0, [.i .i64 SF, .i .i64 ST, .list (xs.set (Int.toNat x) (.agg [.i .i64 By, .i .i64 Slot, .h Sum1])), .i .i64 Stable, .h Sum])) (
 bd (insertF 48 [.fresh xs, .i .i64 x, .fresh ([.agg [.i .i64 By, .i .i64 Slot, .h Sum1]] : List MV)]) fun rA3 =>
 gF rA3 fun xs1 =>
 some (0, [.i .i64 SF, .i .i64 ST, .list xs1, .i .i64 Stable, .h Sum]))) fun p =>
 chk (Nat.beq p.1 0) <|
 gC p.2 fun m17 msA17 =>
 gI .i64 m17 fun x4 =>
 gC msA17 fun m18 msA18 =>
 gI .i64 m18 fun x5 =>
 gC msA18 fun m19 msA19 =>
 gL m19 fun xs2 =>
 gC msA19 fun m20 msA20 =>
 gI .i64 m20 fun x6 =>
 gC msA20 fun m21 msA21 =>
 gH m21 fun x7 =>
 gN msA21 <|
 bd (
 ifB (decide (Slot ≤ x6)) (
 some [.b true]) (
 bd (dMarkMarksSay (.agg [.i .i64 x4, .i .i64 x5, .list xs2, .i .i64 x6, .h x7]) (.i .i64 Slot) (.h Sum1)) fun rA4 =>
 gI .i64 rA4 fun x8 =>
 bd (dSizeProof (.agg [.i .i64 x4, .i .i64 x5])) fun rA5 =>
 gI .i64 rA5 fun x9 =>
 some [.b (decide (x8 < x9))])) fun vs2 =>
 gC vs2 fun m22 msA22 =>
 gB m22 fun x10 =>
 gN msA22 <|
 ifB x10 (
 some (.tup [.agg [.i .i64 x4, .i .i64 x5, .list xs2, .i .i64 x6, .h x7], .b false])) (
 some (.tup [.agg [.i .i64 x4, .i .i64 x5, .list xs2, .i .i64 Slot, .h Sum1], .b true])))
theorem linkMarkHear (a a1 : MV) : bodyK cxMarkHear [] none Try.f47 [a, a1] = dMarkHear a a1 := by kernel_rfl
noncomputable def gMarkHear : Nat → List MV → Option MV := addG 47 (lst2 dMarkHear) gSizeProof
theorem soundMarkHear : SoundG Try.prog cx gMarkHear :=
  soundSizeProof.fn (c' := cxMarkHear) (caps := []) ⟨rfl, rfl, rfl, rfl, rfl, rfl⟩ rfl tab_ok eq_ok fk_ok mix_ok Try.func47 (by kernel_rfl) (fun _ => rfl) (lst2_of linkMarkHear)

noncomputable def cxSizeWeak : Ctx := ⟨lookT tiTab, kk, gMarkHear, gv, frs, lookN ftyOf, 5, [], [], lookL [], lookF fkTab, lookL [], lookH [], lookH [], lookH []⟩
noncomputable def dSizeWeak (sA : MV) : Option MV :=
 gA sA fun cs =>
 gC cs fun m msA =>
 gI .i64 m fun F =>
 gC msA fun m1 msA1 =>
 gI .i64 m1 fun T =>
 gN msA1 <|
 bd (dSizeSizeOf (.agg [.i .i64 F, .i .i64 T]) (.raw (.complex .f64 4607182418800017408 0))) fun rA =>
 gI .i64 rA fun x =>
 some (.i .i64 x)
theorem linkSizeWeak (sA : MV) : bodyK cxSizeWeak [] none Try.f89 [sA] = dSizeWeak sA := by kernel_rfl
noncomputable def gSizeWeak : Nat → List MV → Option MV := addG 89 (lst1 dSizeWeak) gMarkHear
theorem soundSizeWeak : SoundG Try.prog cx gSizeWeak :=
  soundMarkHear.fn (c' := cxSizeWeak) (caps := []) ⟨rfl, rfl, rfl, rfl, rfl, rfl⟩ rfl tab_ok eq_ok fk_ok mix_ok Try.func89 (by kernel_rfl) (fun _ => rfl) (lst1_of linkSizeWeak)

noncomputable def cxMarkTrusted : Ctx := ⟨lookT tiTab, kk, gSizeWeak, gv, frs, lookN ftyOf, 15, [], [], lookL [], lookF fkTab, lookL [(1, [0, 1, 2, 4, 5, 3, 6, 7, 8])], lookH [], lookH [], lookH []⟩
noncomputable def dMarkTrusted (m slot sum : MV) : Option MV :=
 gA m fun cs =>
 gC cs fun m1 msA =>
 gI .i64 m1 fun SF =>
 gC msA fun m2 msA1 =>
 gI .i64 m2 fun ST =>
 gC msA1 fun m3 msA2 =>
 gL m3 fun L =>
 gC msA2 fun m4 msA3 =>
 gI .i64 m4 fun Stable =>
 gC msA3 fun m5 msA4 =>
 gH m5 fun Sum =>
 gN msA4 <|
 gI .i64 slot fun slot1 =>
 gH sum fun sum1 =>
 bd (dMarkMarksSay (.agg [.i .i64 SF, .i .i64 ST, .list L, .i .i64 Stable, .h Sum]) (.i .i64 slot1) (.h sum1)) fun rA =>
 gI .i64 rA fun x =>
 bd (dSizeWeak (.agg [.i .i64 SF, .i .i64 ST])) fun rA1 =>
 gI .i64 rA1 fun x1 =>
 some (.b (decide (x1 ≤ x)))
theorem linkMarkTrusted (m slot sum : MV) : bodyK cxMarkTrusted [] none Try.f51 [m, slot, sum] = dMarkTrusted m slot sum := by kernel_rfl
noncomputable def gMarkTrusted : Nat → List MV → Option MV := addG 51 (lst3 dMarkTrusted) gSizeWeak
theorem soundMarkTrusted : SoundG Try.prog cx gMarkTrusted :=
  soundSizeWeak.fn (c' := cxMarkTrusted) (caps := []) ⟨rfl, rfl, rfl, rfl, rfl, rfl⟩ rfl tab_ok eq_ok fk_ok mix_ok Try.func51 (by kernel_rfl) (fun _ => rfl) (lst3_of linkMarkTrusted)

noncomputable def cxMarkBehind : Ctx := ⟨lookT tiTab, kk, gMarkTrusted, gv, frs, lookN ftyOf, 8, [], [], lookL [], lookF fkTab, lookL [], lookH [], lookH [], lookH []⟩
noncomputable def dMarkBehind (m slot : MV) : Option MV :=
 gA m fun cs =>
 gC cs fun m1 msA =>
 gI .i64 m1 fun SF =>
 gC msA fun m2 msA1 =>
 gI .i64 m2 fun ST =>
 gC msA1 fun m3 msA2 =>
 gL m3 fun L =>
 gC msA2 fun m4 msA3 =>
 gI .i64 m4 fun Stable =>
 gC msA3 fun m5 msA4 =>
 gH m5 fun Sum =>
 gN msA4 <|
 gI .i64 slot fun slot1 =>
 bd (dMarkMarksCount (.agg [.i .i64 SF, .i .i64 ST, .list L, .i .i64 Stable, .h Sum]) (.func 92 [.rp [.i .i64 slot1]])) fun rA =>
 gI .i64 rA fun x =>
 some (.i .i64 x)
theorem linkMarkBehind (m slot : MV) : bodyK cxMarkBehind [] none Try.f53 [m, slot] = dMarkBehind m slot := by kernel_rfl
noncomputable def gMarkBehind : Nat → List MV → Option MV := addG 53 (lst2 dMarkBehind) gMarkTrusted
theorem soundMarkBehind : SoundG Try.prog cx gMarkBehind :=
  soundMarkTrusted.fn (c' := cxMarkBehind) (caps := []) ⟨rfl, rfl, rfl, rfl, rfl, rfl⟩ rfl tab_ok eq_ok fk_ok mix_ok Try.func53 (by kernel_rfl) (fun _ => rfl) (lst2_of linkMarkBehind)

noncomputable def cxSizeRight : Ctx := ⟨lookT tiTab, kk, gMarkBehind, gv, frs, lookN ftyOf, 23, [], [], lookL [], lookF fkTab, lookL [], lookH [(1, ⟨[1], [], [], [(0, [(2, .sc (.k .b))])], []⟩)], lookH [], lookH []⟩
noncomputable def dSizeRight (sA : MV) : Option MV :=
 gA sA fun cs =>
 gC cs fun m msA =>
 gI .i64 m fun F =>
 gC msA fun m1 msA1 =>
 gI .i64 m1 fun T =>
 gN msA1 <|
 bd (
 ifB (decide ((1 : Int) ≤ F)) (
 ifB (decide (F ≤ 5)) (
 ifB (decide ((0 : Int) ≤ T)) (
 some [.b (decide (T ≤ F))]) (
 some [.b false])) (
 some [.b false])) (
 some [.b false])) fun vs =>
 gC vs fun m2 msA2 =>
 gB m2 fun x =>
 gN msA2 <|
 some (.b x)
theorem linkSizeRight (sA : MV) : bodyK cxSizeRight [] none Try.f93 [sA] = dSizeRight sA := by kernel_rfl
noncomputable def gSizeRight : Nat → List MV → Option MV := addG 93 (lst1 dSizeRight) gMarkBehind
theorem soundSizeRight : SoundG Try.prog cx gSizeRight :=
  soundMarkBehind.fn (c' := cxSizeRight) (caps := []) ⟨rfl, rfl, rfl, rfl, rfl, rfl⟩ rfl tab_ok eq_ok fk_ok mix_ok Try.func93 (by kernel_rfl) (fun _ => rfl) (lst1_of linkSizeRight)

noncomputable def cxMarkNew : Ctx := ⟨lookT tiTab, kk, gSizeRight, gv, frs, lookN ftyOf, 10, [], [], lookL [], lookF fkTab, lookL [], lookH [], lookH [], lookH []⟩
noncomputable def dMarkNew (sA : MV) : Option MV :=
 gA sA fun cs =>
 gC cs fun m msA =>
 gI .i64 m fun F =>
 gC msA fun m1 msA1 =>
 gI .i64 m1 fun T =>
 gN msA1 <|
 bd (dSizeRight (.agg [.i .i64 F, .i .i64 T])) fun rA =>
 gB rA fun x =>
 ifB (!x) (
 some (.tup [.agg [.i .i64 0, .i .i64 0, .list ([] : List MV), .i .i64 0, .h Hash.zero], .i .i64 1])) (
 some (.tup [.agg [.i .i64 F, .i .i64 T, .list ([] : List MV), .i .i64 0, .h Hash.zero], .i .i64 0]))
theorem linkMarkNew (sA : MV) : bodyK cxMarkNew [] none Try.f55 [sA] = dMarkNew sA := by kernel_rfl
noncomputable def gMarkNew : Nat → List MV → Option MV := addG 55 (lst1 dMarkNew) gSizeRight
theorem soundMarkNew : SoundG Try.prog cx gMarkNew :=
  soundSizeRight.fn (c' := cxMarkNew) (caps := []) ⟨rfl, rfl, rfl, rfl, rfl, rfl⟩ rfl tab_ok eq_ok fk_ok mix_ok Try.func55 (by kernel_rfl) (fun _ => rfl) (lst1_of linkMarkNew)

noncomputable def cxL26Alive : Ctx := ⟨lookT tiTab, kk, gMarkNew, gv, frs, lookN ftyOf, 52, [], [], lookL [], lookF fkTab, lookL [], lookH [(8, ⟨[1, 2, 3], [], [], [(0, [(0, .sc (.k .b))])], []⟩)], lookH [], lookH [(4, ⟨[2], [], [(1, .box [.k (.i .i64), .k (.i .i64), .k .l, .k (.i .i64), .k .h]), (3, .sc (.k .b)), (4, .sc (.k (.i .i64)))], [(2, [(1, .box [.k (.i .i64), .k (.i .i64), .k .l, .k (.i .i64), .k .h]), (3, .sc (.k .b))])], []⟩)]⟩
noncomputable def dL26Alive : Option MV :=
 bd (dMarkNew (.agg [.i .i64 1, .i .i64 0])) fun rA =>
 gT rA fun vs =>
 gC vs fun m msA =>
 gA m fun cs =>
 gC cs fun m1 msA1 =>
 gI .i64 m1 fun SF =>
 gC msA1 fun m2 msA2 =>
 gI .i64 m2 fun ST =>
 gC msA2 fun m3 msA3 =>
 gL m3 fun L =>
 gC msA3 fun m4 msA4 =>
 gI .i64 m4 fun Stable =>
 gC msA4 fun m5 msA5 =>
 gH m5 fun Sum =>
 gN msA5 <|
 gC msA fun m6 msA6 =>
 gI .i64 m6 fun x =>
 gN msA6 <|
 bd (Loop (fun msA7 =>
 gC msA7 fun m7 msA8 =>
 gI .i64 m7 fun m8 =>
 gC msA8 fun m9 msA9 =>
 gI .i64 m9 fun m10 =>
 gC msA9 fun m11 msA10 =>
 gL m11 fun m12 =>
 gC msA10 fun m13 msA11 =>
 gI .i64 m13 fun m14 =>
 gC msA11 fun m15 msA12 =>
 gH m15 fun m16 =>
 gC msA12 fun m17 msA13 =>
 gB m17 fun stable =>
 gC msA13 fun m18 msA14 =>
 gI .i64 m18 fun i =>
 gN msA14 <|
 ifB (decide (i < 3)) (
 chk (isByte 7) <|
 bd (dMarkHear (.agg [.i .i64 m8, .i .i64 m10, .list m12, .i .i64 m14, .h m16]) (.agg [.i .i64 i, .i .i64 2, .h (Hash.zero.put 0 (UInt8.ofNat (Int.toNat 7)))])) fun rA1 =>
 gT rA1 fun vs1 =>
 gC vs1 fun m19 msA15 =>
 gA m19 fun cs1 =>
 gC cs1 fun m20 msA16 =>
 gI .i64 m20 fun SF1 =>
 gC msA16 fun m21 msA17 =>
 gI .i64 m21 fun ST1 =>
 gC msA17 fun m22 msA18 =>
 gL m22 fun L1 =>
 gC msA18 fun m23 msA19 =>
 gI .i64 m23 fun Stable1 =>
 gC msA19 fun m24 msA20 =>
 gH m24 fun Sum1 =>
 gN msA20 <|
 gC msA15 fun m25 msA21 =>
 gB m25 fun x1 =>
 gN msA21 <|
 some (.inl [.i .i64 SF1, .i .i64 ST1, .list L1, .i .i64 Stable1, .h Sum1, .b x1, .i .i64 (IntKind.wrap .i64 (i + 1))])) (
 some (.inr (2, [.i .i64 m8, .i .i64 m10, .list m12, .i .i64 m14, .h m16, .b stable])))) [.i .i64 SF, .i .i64 ST, .list L, .i .i64 Stable, .h Sum, .b false, .i .i64 0]) fun p =>
 chk (Nat.beq p.1 2) <|
 gC p.2 fun m26 msA22 =>
 gI .i64 m26 fun m27 =>
 gC msA22 fun m28 msA23 =>
 gI .i64 m28 fun m29 =>
 gC msA23 fun m30 msA24 =>
 gL m30 fun m31 =>
 gC msA24 fun m32 msA25 =>
 gI .i64 m32 fun m33 =>
 gC msA25 fun m34 msA26 =>
 gH m34 fun m35 =>
 gC msA26 fun m36 msA27 =>
 gB m36 fun stable1 =>
 gN msA27 <|
 bd (
 ifB (decide (x = 0)) (
 ifB stable1 (
 ifB (decide (m33 = 2)) (
 chk (decide ((0 : Int) ≤ 0 ∧ (0 : Int) < 32)) <|
 ifB (decide (((m35.l.getD (Int.toNat 0) 0).toNat : Int) = 7)) (
 chk (isByte 7) <|
 bd (dMarkTrusted (.agg [.i .i64 m27, .i .i64 m29, .list m31, .i .i64 m33, .h m35]) (.i .i64 2) (.h (Hash.zero.put 0 (UInt8.ofNat (Int.toNat 7))))) fun rA2 =>
 gB rA2 fun x2 =>
 ifB x2 (
 bd (dMarkBehind (.agg [.i .i64 m27, .i .i64 m29, .list m31, .i .i64 m33, .h m35]) (.i .i64 2)) fun rA3 =>
 gI .i64 rA3 fun x3 =>
 some [.b (decide (x3 = 3))]) (
 some [.b false])) (
 some [.b false])) (
 some [.b false])) (
 some [.b false])) (
 some [.b false])) fun vs2 =>
 gC vs2 fun m37 msA28 =>
 gB m37 fun x4 =>
 gN msA28 <|
 some (.b x4)
theorem linkL26Alive : bodyK cxL26Alive [] none Try.f46 [] = dL26Alive  := by kernel_rfl
noncomputable def gL26Alive : Nat → List MV → Option MV := addG 46 (lst0 dL26Alive) gMarkNew
theorem soundL26Alive : SoundG Try.prog cx gL26Alive :=
  soundMarkNew.fn (c' := cxL26Alive) (caps := []) ⟨rfl, rfl, rfl, rfl, rfl, rfl⟩ rfl tab_ok eq_ok fk_ok mix_ok Try.func46 (by kernel_rfl) (fun _ => rfl) (lst0_of linkL26Alive)

noncomputable def cxR26Count : Ctx := ⟨lookT tiTab, kk, gL26Alive, gv, frs, lookN ftyOf, 37, [], [], lookL [], lookF fkTab, lookL [(5, [0, 1, 2, 3, 4, 5, 6, 7, 8, 9, 10, 11, 12, 13, 14, 15, 16, 17])], lookH [(5, ⟨[1, 3, 5, 7, 8], [], [], [(0, [(33, .sc (.k .b))])], []⟩)], lookH [(6, ⟨[1, 3, 5, 8], [], [], [(0, [(7, .sc (.k (.i .i64)))])], []⟩)], lookH [(3, ⟨[1, 3, 5], [], [(7, .sc (.k (.i .i64))), (8, .sc (.k (.i .i64)))], [(2, [(7, .sc (.k (.i .i64)))])], []⟩)]⟩
noncomputable def dR26Count (m slot sum : MV) : Option MV :=
 gA m fun cs =>
 gC cs fun m1 msA =>
 gI .i64 m1 fun SF =>
 gC msA fun m2 msA1 =>
 gI .i64 m2 fun ST =>
 gC msA1 fun m3 msA2 =>
 gL m3 fun L =>
 gC msA2 fun m4 msA3 =>
 gI .i64 m4 fun Stable =>
 gC msA3 fun m5 msA4 =>
 gH m5 fun Sum =>
 gN msA4 <|
 gI .i64 slot fun slot1 =>
 gH sum fun sum1 =>
 bd (Loop (fun msA5 =>
 gC msA5 fun m6 msA6 =>
 gI .i64 m6 fun n =>
 gC msA6 fun m7 msA7 =>
 gI .i64 m7 fun i =>
 gN msA7 <|
 lenN L fun len =>
 ifB (decide (i < (len : Int))) (
 bd (
 idx L i fun y =>
 gA y fun cs1 =>
 gC cs1 fun m8 msA8 =>
 gI .i64 m8 fun By =>
 gC msA8 fun m9 msA9 =>
 gI .i64 m9 fun Slot =>
 gC msA9 fun m10 msA10 =>
 gH m10 fun Sum1 =>
 gN msA10 <|
 ifB (decide (Slot = slot1)) (
 idx L i fun y1 =>
 gA y1 fun cs2 =>
 gC cs2 fun m11 msA11 =>
 gI .i64 m11 fun By1 =>
 gC msA11 fun m12 msA12 =>
 gI .i64 m12 fun Slot1 =>
 gC msA12 fun m13 msA13 =>
 gH m13 fun Sum2 =>
 gN msA13 <|
 some [.b (decide (Sum2 = sum1))]) (
 some [.b false])) fun vs =>
 gC vs fun m14 msA14 =>
 gB m14 fun x =>
 gN msA14 <|
 bd (
 ifB x (
 some (0, [.i .i64 (IntKind.wrap .i64 (n + 1))])) (
 some (0, [.i .i64 n]))) fun p1 =>
 chk (Nat.beq p1.1 0) <|
 gC p1.2 fun m15 msA15 =>
 gI .i64 m15 fun n1 =>
 gN msA15 <|
 some (.inl [.i .i64 n1, .i .i64 (IntKind.wrap .i64 (i + 1))])) (
 some (.inr (2, [.i .i64 n])))) [.i .i64 0, .i .i64 0]) fun p =>
 chk (Nat.beq p.1 2) <|
 gC p.2 fun m16 msA16 =>
 gI .i64 m16 fun n2 =>
 gN msA16 <|
 some (.i .i64 n2)
theorem linkR26Count (m slot sum : MV) : bodyK cxR26Count [] none Try.f87 [m, slot, sum] = dR26Count m slot sum := by kernel_rfl
noncomputable def gR26Count : Nat → List MV → Option MV := addG 87 (lst3 dR26Count) gL26Alive
theorem soundR26Count : SoundG Try.prog cx gR26Count :=
  soundL26Alive.fn (c' := cxR26Count) (caps := []) ⟨rfl, rfl, rfl, rfl, rfl, rfl⟩ rfl tab_ok eq_ok fk_ok mix_ok Try.func87 (by kernel_rfl) (fun _ => rfl) (lst3_of linkR26Count)

noncomputable def cxR07Proof : Ctx := ⟨lookT tiTab, kk, gR26Count, gv, frs, lookN ftyOf, 10, [], [], lookL [], lookF fkTab, lookL [], lookH [], lookH [], lookH []⟩
noncomputable def dR07Proof (sA : MV) : Option MV :=
 gA sA fun cs =>
 gC cs fun m msA =>
 gI .i64 m fun F =>
 gC msA fun m1 msA1 =>
 gI .i64 m1 fun T =>
 gN msA1 <|
 some (.i .i64 (IntKind.wrap .i64 ((IntKind.wrap .i64 ((IntKind.wrap .i64 (2 * F)) + T)) + 1)))
theorem linkR07Proof (sA : MV) : bodyK cxR07Proof [] none Try.f88 [sA] = dR07Proof sA := by kernel_rfl
noncomputable def gR07Proof : Nat → List MV → Option MV := addG 88 (lst1 dR07Proof) gR26Count
theorem soundR07Proof : SoundG Try.prog cx gR07Proof :=
  soundR26Count.fn (c' := cxR07Proof) (caps := []) ⟨rfl, rfl, rfl, rfl, rfl, rfl⟩ rfl tab_ok eq_ok fk_ok mix_ok Try.func88 (by kernel_rfl) (fun _ => rfl) (lst1_of linkR07Proof)

noncomputable def cxR26Hear : Ctx := ⟨lookT tiTab, kk, gR07Proof, gv, frs, lookN ftyOf, 104, [54, 63, 69], [], lookL [], lookF fkTab, lookL [(19, [0, 1, 2, 3, 4, 5, 6, 7, 8, 9, 10, 12, 13, 11, 14, 15, 16])], lookH [(19, ⟨[2, 3, 4, 10], [17], [], [(0, [(95, .sc (.k .b))])], [17, 54, 63, 69]⟩), (11, ⟨[2, 3, 4, 6, 7, 8, 9], [17], [], [(0, [(51, .sc (.k .b))])], [17, 54, 63, 69]⟩), (9, ⟨[2, 3, 4, 6, 7, 8, 9], [17], [], [(0, [(41, .sc (.k .b))])], [17, 54, 63, 69]⟩)], lookH [(17, ⟨[2, 3, 4], [], [], [(0, [(6, .sc (.own 17 99 true))])], [17, 54, 63, 69]⟩), (15, ⟨[2, 3, 4, 7, 8, 9], [], [], [(0, [(6, .sc (.own 17 99 true))])], [17, 54, 63, 69]⟩), (12, ⟨[2, 3, 4, 8, 9], [], [], [(0, [(6, .sc (.own 17 99 true)), (7, .sc (.k .b))])], [17, 54, 63, 69]⟩)], lookH [(6, ⟨[2, 3], [], [(4, .box [.k (.i .i64), .k (.i .i64), .k .l, .k (.i .i64), .k .h]), (6, .sc (.own 17 99 true)), (7, .sc (.k .b)), (8, .sc (.k (.i .i64)))], [(1, [(4, .box [.k (.i .i64), .k (.i .i64), .k .l, .k (.i .i64), .k .h]), (5, .sc (.k .b))]), (2, [(4, .box [.k (.i .i64), .k (.i .i64), .k .l, .k (.i .i64), .k .h]), (6, .sc (.own 17 99 true)), (7, .sc (.k .b))])], [17, 54, 63, 69]⟩)]⟩
noncomputable def dR26Hear (a a1 : MV) : Option MV :=
 gA a fun cs =>
 gC cs fun m msA =>
 gI .i64 m fun SF =>
 gC msA fun m1 msA1 =>
 gI .i64 m1 fun ST =>
 gC msA1 fun m2 msA2 =>
 gL m2 fun L =>
 gC msA2 fun m3 msA3 =>
 gI .i64 m3 fun Stable =>
 gC msA3 fun m4 msA4 =>
 gH m4 fun Sum =>
 gN msA4 <|
 gA a1 fun cs1 =>
 gC cs1 fun m5 msA5 =>
 gI .i64 m5 fun By =>
 gC msA5 fun m6 msA6 =>
 gI .i64 m6 fun Slot =>
 gC msA6 fun m7 msA7 =>
 gH m7 fun Sum1 =>
 gN msA7 <|
 bd (dR26May (.agg [.i .i64 SF, .i .i64 ST]) (.agg [.i .i64 By, .i .i64 Slot, .h Sum1])) fun rA =>
 gB rA fun x =>
 ifB (!x) (
 some (.tup [.agg [.i .i64 SF, .i .i64 ST, .list L, .i .i64 Stable, .h Sum], .b false])) (
 bd (Loop (fun msA8 =>
 gC msA8 fun m8 msA9 =>
 gI .i64 m8 fun x1 =>
 gC msA9 fun m9 msA10 =>
 gI .i64 m9 fun x2 =>
 gC msA10 fun m10 msA11 =>
 gL m10 fun x3 =>
 gC msA11 fun m11 msA12 =>
 gI .i64 m11 fun x4 =>
 gC msA12 fun m12 msA13 =>
 gH m12 fun x5 =>
 gC msA13 fun m13 msA14 =>
 gL m13 fun xs =>
 gC msA14 fun m14 msA15 =>
 gB m14 fun x6 =>
 gC msA15 fun m15 msA16 =>
 gI .i64 m15 fun x7 =>
 gN msA16 <|
 lenN L fun len =>
 ifB (decide (x7 < (len : Int))) (
 idx L x7 fun y =>
 gA y fun cs2 =>
 gC cs2 fun m16 msA17 =>
 gI .i64 m16 fun By1 =>
 gC msA17 fun m17 msA18 =>
 gI .i64 m17 fun Slot1 =>
 gC msA18 fun m18 msA19 =>
 gH m18 fun Sum2 =>
 gN msA19 <|
 bd (
 ifB (decide (By1 = By)) (
 some [.b (decide (Slot ≤ Slot1))]) (
 some [.b false])) fun vs =>
 gC vs fun m19 msA20 =>
 gB m19 fun x8 =>
 gN msA20 <|
 ifB x8 (
 some (.inr (1, [.i .i64 SF, .i .i64 ST, .list L, .i .i64 Stable, .h Sum, .b false]))) (
 bd (
 ifB (!x6) (
 some [.b (decide (By ≤ By1))]) (
 some [.b false])) fun vs1 =>
 gC vs1 fun m20 msA21 =>
 gB m20 fun x9 =>
 gN msA21 <|
 bd (
 ifB x9 (
 lenN xs fun len1 =>
 lenN ([.agg [.i .i64 By, .i .i64 Slot, .h Sum1]] : List MV) fun len2 =>
 chk (decide ((len1 + len2) * 48 ≤ 2 ^ 46)) <|
 some (0, [.list (xs ++ ([.agg [.i .i64 By, .i .i64 Slot, .h Sum1]] : List MV)), .b true])) (
 some (0, [.list xs, .b x6]))) fun p1 =>
 chk (Nat.beq p1.1 0) <|
 gC p1.2 fun m21 msA22 =>
 gL m21 fun xs1 =>
 gC msA22 fun m22 msA23 =>
 gB m22 fun x10 =>
 gN msA23 <|
 bd (
 ifB (!decide (By1 = By)) (
 lenN xs1 fun len3 =>
 lenN ([.agg [.i .i64 By1, .i .i64 Slot1, .h Sum2]] : List MV) fun len4 =>
 chk (decide ((len3 + len4) * 48 ≤ 2 ^ 46)) <|
 some (0, [.list (xs1 ++ ([.agg [.i .i64 By1, .i .i64 Slot1, .h Sum2]] : List MV))])) (
 some (0, [.list xs1]))) fun p2 =>
 chk (Nat.beq p2.1 0) <|
 gC p2.2 fun m23 msA24 =>
 gL m23 fun xs2 =>
 gN msA24 <|
 some (.inl [.i .i64 x1, .i .i64 x2, .list x3, .i .i64 x4, .h x5, .list xs2, .b x10, .i .i64 (IntKind.wrap .i64 (x7 + 1))]))) (
 some (.inr (2, [.i .i64 x1, .i .i64 x2, .list x3, .i .i64 x4, .h x5, .list xs, .b x6])))) [.i .i64 0, .i .i64 0, .list ([] : List MV), .i .i64 0, .h Hash.zero, .list ([] : List MV), .b false, .i .i64 0]) fun p =>
 ifB (Nat.beq p.1 2) (
 gC p.2 fun m24 msA25 =>
 gI .i64 m24 fun x11 =>
 gC msA25 fun m25 msA26 =>
 gI .i64 m25 fun x12 =>
 gC msA26 fun m26 msA27 =>
 gL m26 fun x13 =>
 gC msA27 fun m27 msA28 =>
 gI .i64 m27 fun x14 =>
 gC msA28 fun m28 msA29 =>
 gH m28 fun x15 =>
 gC msA29 fun m29 msA30 =>
 gL m29 fun xs3 =>
 gC msA30 fun m30 msA31 =>
 gB m30 fun x16 =>
 gN msA31 <|
 bd (
 ifB (!x16) (
 lenN xs3 fun len5 =>
 lenN ([.agg [.i .i64 By, .i .i64 Slot, .h Sum1]] : List MV) fun len6 =>
 chk (decide ((len5 + len6) * 48 ≤ 2 ^ 46)) <|
 some (0, [.list (xs3 ++ ([.agg [.i .i64 By, .i .i64 Slot, .h Sum1]] : List MV))])) (
 some (0, [.list xs3]))) fun p5 =>
 chk (Nat.beq p5.1 0) <|
 gC p5.2 fun m31 msA32 =>
 gL m31 fun xs4 =>
 gN msA32 <|
 bd (
 ifB (decide (Slot ≤ Stable)) (
 some [.b true]) (
 bd (dR26Count (.agg [.i .i64 SF, .i .i64 ST, .list xs4, .i .i64 Stable, .h Sum]) (.i .i64 Slot) (.h Sum1)) fun rA1 =>
 gI .i64 rA1 fun x17 =>
 bd (dR07Proof (.agg [.i .i64 SF, .i .i64 ST])) fun rA2 =>
 gI .i64 rA2 fun x18 =>
 some [.b (decide (x17 < x18))])) fun vs2 =>
 gC vs2 fun m32 msA33 =>
 gB m32 fun x19 =>
 gN msA33 <|
 ifB x19 (
 some (.tup [.agg [.i .i64 SF, .i .i64 ST, .list xs4, .i .i64 Stable, .h Sum], .b false])) (
 some (.tup [.agg [.i .i64 SF, .i .i64 ST, .list xs4, .i .i64 Slot, .h Sum1], .b true]))) (
 chk (Nat.beq p.1 1) <|
 gC p.2 fun m33 msA34 =>
 gI .i64 m33 fun x20 =>
 gC msA34 fun m34 msA35 =>
 gI .i64 m34 fun x21 =>
 gC msA35 fun m35 msA36 =>
 gL m35 fun x22 =>
 gC msA36 fun m36 msA37 =>
 gI .i64 m36 fun x23 =>
 gC msA37 fun m37 msA38 =>
 gH m37 fun x24 =>
 gC msA38 fun m38 msA39 =>
 gB m38 fun x25 =>
 gN msA39 <|
 some (.tup [.agg [.i .i64 x20, .i .i64 x21, .list x22, .i .i64 x23, .h x24], .b x25])))
theorem linkR26Hear (a a1 : MV) : bodyK cxR26Hear [] none Try.f48 [a, a1] = dR26Hear a a1 := by kernel_rfl
noncomputable def gR26Hear : Nat → List MV → Option MV := addG 48 (lst2 dR26Hear) gR07Proof
theorem soundR26Hear : SoundG Try.prog cx gR26Hear :=
  soundR07Proof.fn (c' := cxR26Hear) (caps := []) ⟨rfl, rfl, rfl, rfl, rfl, rfl⟩ rfl tab_ok eq_ok fk_ok mix_ok Try.func48 (by kernel_rfl) (fun _ => rfl) (lst2_of linkR26Hear)

noncomputable def cxR26Same : Ctx := ⟨lookT tiTab, kk, gR26Hear, gv, frs, lookN ftyOf, 52, [], [], lookL [], lookF fkTab, lookL [(6, [0, 1, 2, 3, 4, 5, 6, 7, 8, 9, 10])], lookH [(1, ⟨[2, 3], [], [], [(0, [(33, .sc (.k .b))])], []⟩)], lookH [], lookH [(4, ⟨[2, 3], [], [(5, .sc (.k (.i .i64)))], [(1, [(4, .sc (.k .b))]), (2, [])], []⟩)]⟩
noncomputable def dR26Same (a b : MV) : Option MV :=
 gA a fun cs =>
 gC cs fun m msA =>
 gI .i64 m fun SF =>
 gC msA fun m1 msA1 =>
 gI .i64 m1 fun ST =>
 gC msA1 fun m2 msA2 =>
 gL m2 fun L =>
 gC msA2 fun m3 msA3 =>
 gI .i64 m3 fun Stable =>
 gC msA3 fun m4 msA4 =>
 gH m4 fun Sum =>
 gN msA4 <|
 gA b fun cs1 =>
 gC cs1 fun m5 msA5 =>
 gI .i64 m5 fun SF1 =>
 gC msA5 fun m6 msA6 =>
 gI .i64 m6 fun ST1 =>
 gC msA6 fun m7 msA7 =>
 gL m7 fun L1 =>
 gC msA7 fun m8 msA8 =>
 gI .i64 m8 fun Stable1 =>
 gC msA8 fun m9 msA9 =>
 gH m9 fun Sum1 =>
 gN msA9 <|
 bd (
 ifB (!((decide (SF = SF1)) && (decide (ST = ST1)))) (
 some [.b true]) (
 ifB (!decide (Stable = Stable1)) (
 some [.b true]) (
 ifB (!(decide (Sum = Sum1))) (
 some [.b true]) (
 lenN L fun len =>
 lenN L1 fun len1 =>
 some [.b (!decide ((len : Int) = (len1 : Int)))])))) fun vs =>
 gC vs fun m10 msA10 =>
 gB m10 fun x =>
 gN msA10 <|
 ifB x (
 some (.b false)) (
 bd (Loop (fun msA11 =>
 gC msA11 fun m11 msA12 =>
 gI .i64 m11 fun i =>
 gN msA12 <|
 lenN L fun len2 =>
 ifB (decide (i < (len2 : Int))) (
 idx L i fun y =>
 gA y fun cs2 =>
 gC cs2 fun m12 msA13 =>
 gI .i64 m12 fun By =>
 gC msA13 fun m13 msA14 =>
 gI .i64 m13 fun Slot =>
 gC msA14 fun m14 msA15 =>
 gH m14 fun Sum2 =>
 gN msA15 <|
 idx L1 i fun y1 =>
 gA y1 fun cs3 =>
 gC cs3 fun m15 msA16 =>
 gI .i64 m15 fun By1 =>
 gC msA16 fun m16 msA17 =>
 gI .i64 m16 fun Slot1 =>
 gC msA17 fun m17 msA18 =>
 gH m17 fun Sum3 =>
 gN msA18 <|
 ifB (!((decide (By = By1)) && ((decide (Slot = Slot1)) && (decide (Sum2 = Sum3))))) (
 some (.inr (1, [.b false]))) (
 some (.inl [.i .i64 (IntKind.wrap .i64 (i + 1))]))) (
 some (.inr (2, [])))) [.i .i64 0]) fun p =>
 ifB (Nat.beq p.1 2) (
 gN p.2 <|
 some (.b true)) (
 chk (Nat.beq p.1 1) <|
 gC p.2 fun m18 msA19 =>
 gB m18 fun x1 =>
 gN msA19 <|
 some (.b x1)))
theorem linkR26Same (a b : MV) : bodyK cxR26Same [] none Try.f50 [a, b] = dR26Same a b := by kernel_rfl
noncomputable def gR26Same : Nat → List MV → Option MV := addG 50 (lst2 dR26Same) gR26Hear
theorem soundR26Same : SoundG Try.prog cx gR26Same :=
  soundR26Hear.fn (c' := cxR26Same) (caps := []) ⟨rfl, rfl, rfl, rfl, rfl, rfl⟩ rfl tab_ok eq_ok fk_ok mix_ok Try.func50 (by kernel_rfl) (fun _ => rfl) (lst2_of linkR26Same)

noncomputable def cxR07Weak : Ctx := ⟨lookT tiTab, kk, gR26Same, gv, frs, lookN ftyOf, 6, [], [], lookL [], lookF fkTab, lookL [], lookH [], lookH [], lookH []⟩
noncomputable def dR07Weak (sA : MV) : Option MV :=
 gA sA fun cs =>
 gC cs fun m msA =>
 gI .i64 m fun F =>
 gC msA fun m1 msA1 =>
 gI .i64 m1 fun T =>
 gN msA1 <|
 some (.i .i64 (IntKind.wrap .i64 (F + 1)))
theorem linkR07Weak (sA : MV) : bodyK cxR07Weak [] none Try.f90 [sA] = dR07Weak sA := by kernel_rfl
noncomputable def gR07Weak : Nat → List MV → Option MV := addG 90 (lst1 dR07Weak) gR26Same
theorem soundR07Weak : SoundG Try.prog cx gR07Weak :=
  soundR26Same.fn (c' := cxR07Weak) (caps := []) ⟨rfl, rfl, rfl, rfl, rfl, rfl⟩ rfl tab_ok eq_ok fk_ok mix_ok Try.func90 (by kernel_rfl) (fun _ => rfl) (lst1_of linkR07Weak)

noncomputable def cxR26Trusted : Ctx := ⟨lookT tiTab, kk, gR07Weak, gv, frs, lookN ftyOf, 15, [], [], lookL [], lookF fkTab, lookL [(1, [0, 1, 2, 4, 5, 3, 6, 7, 8])], lookH [], lookH [], lookH []⟩
noncomputable def dR26Trusted (m slot sum : MV) : Option MV :=
 gA m fun cs =>
 gC cs fun m1 msA =>
 gI .i64 m1 fun SF =>
 gC msA fun m2 msA1 =>
 gI .i64 m2 fun ST =>
 gC msA1 fun m3 msA2 =>
 gL m3 fun L =>
 gC msA2 fun m4 msA3 =>
 gI .i64 m4 fun Stable =>
 gC msA3 fun m5 msA4 =>
 gH m5 fun Sum =>
 gN msA4 <|
 gI .i64 slot fun slot1 =>
 gH sum fun sum1 =>
 bd (dR26Count (.agg [.i .i64 SF, .i .i64 ST, .list L, .i .i64 Stable, .h Sum]) (.i .i64 slot1) (.h sum1)) fun rA =>
 gI .i64 rA fun x =>
 bd (dR07Weak (.agg [.i .i64 SF, .i .i64 ST])) fun rA1 =>
 gI .i64 rA1 fun x1 =>
 some (.b (decide (x1 ≤ x)))
theorem linkR26Trusted (m slot sum : MV) : bodyK cxR26Trusted [] none Try.f52 [m, slot, sum] = dR26Trusted m slot sum := by kernel_rfl
noncomputable def gR26Trusted : Nat → List MV → Option MV := addG 52 (lst3 dR26Trusted) gR07Weak
theorem soundR26Trusted : SoundG Try.prog cx gR26Trusted :=
  soundR07Weak.fn (c' := cxR26Trusted) (caps := []) ⟨rfl, rfl, rfl, rfl, rfl, rfl⟩ rfl tab_ok eq_ok fk_ok mix_ok Try.func52 (by kernel_rfl) (fun _ => rfl) (lst3_of linkR26Trusted)

noncomputable def cxR26Behind : Ctx := ⟨lookT tiTab, kk, gR26Trusted, gv, frs, lookN ftyOf, 25, [], [], lookL [], lookF fkTab, lookL [], lookH [], lookH [(6, ⟨[1, 2, 6], [], [], [(0, [(5, .sc (.k (.i .i64)))])], []⟩)], lookH [(3, ⟨[1, 2], [], [(5, .sc (.k (.i .i64))), (6, .sc (.k (.i .i64)))], [(2, [(5, .sc (.k (.i .i64)))])], []⟩)]⟩
noncomputable def dR26Behind (m slot : MV) : Option MV :=
 gA m fun cs =>
 gC cs fun m1 msA =>
 gI .i64 m1 fun SF =>
 gC msA fun m2 msA1 =>
 gI .i64 m2 fun ST =>
 gC msA1 fun m3 msA2 =>
 gL m3 fun L =>
 gC msA2 fun m4 msA3 =>
 gI .i64 m4 fun Stable =>
 gC msA3 fun m5 msA4 =>
 gH m5 fun Sum =>
 gN msA4 <|
 gI .i64 slot fun slot1 =>
 bd (Loop (fun msA5 =>
 gC msA5 fun m6 msA6 =>
 gI .i64 m6 fun n =>
 gC msA6 fun m7 msA7 =>
 gI .i64 m7 fun i =>
 gN msA7 <|
 lenN L fun len =>
 ifB (decide (i < (len : Int))) (
 idx L i fun y =>
 gA y fun cs1 =>
 gC cs1 fun m8 msA8 =>
 gI .i64 m8 fun By =>
 gC msA8 fun m9 msA9 =>
 gI .i64 m9 fun Slot =>
 gC msA9 fun m10 msA10 =>
 gH m10 fun Sum1 =>
 gN msA10 <|
 bd (
 ifB (decide (slot1 ≤ Slot)) (
 some (0, [.i .i64 (IntKind.wrap .i64 (n + 1))])) (
 some (0, [.i .i64 n]))) fun p1 =>
 chk (Nat.beq p1.1 0) <|
 gC p1.2 fun m11 msA11 =>
 gI .i64 m11 fun n1 =>
 gN msA11 <|
 some (.inl [.i .i64 n1, .i .i64 (IntKind.wrap .i64 (i + 1))])) (
 some (.inr (2, [.i .i64 n])))) [.i .i64 0, .i .i64 0]) fun p =>
 chk (Nat.beq p.1 2) <|
 gC p.2 fun m12 msA12 =>
 gI .i64 m12 fun n2 =>
 gN msA12 <|
 some (.i .i64 n2)
theorem linkR26Behind (m slot : MV) : bodyK cxR26Behind [] none Try.f54 [m, slot] = dR26Behind m slot := by kernel_rfl
noncomputable def gR26Behind : Nat → List MV → Option MV := addG 54 (lst2 dR26Behind) gR26Trusted
theorem soundR26Behind : SoundG Try.prog cx gR26Behind :=
  soundR26Trusted.fn (c' := cxR26Behind) (caps := []) ⟨rfl, rfl, rfl, rfl, rfl, rfl⟩ rfl tab_ok eq_ok fk_ok mix_ok Try.func54 (by kernel_rfl) (fun _ => rfl) (lst2_of linkR26Behind)

noncomputable def cxL26MarkTurns : Ctx := ⟨lookT tiTab, kk, gR26Behind, gv, frs, lookN ftyOf, 82, [], [], lookL [], lookF fkTab, lookL [(5, [0, 1, 2, 3, 4, 5, 6, 7, 8, 9]), (6, [0, 2, 1, 3, 4, 5, 6, 7, 8, 9, 10, 11, 12, 13, 14, 16, 17, 18, 19, 20, 15, 21, 22, 23, 24]), (7, [0, 1, 2, 3, 4, 5, 6, 8, 9, 7, 10, 11, 12, 13, 14, 16, 15, 17, 18, 19])], lookH [(7, ⟨[2, 3, 7, 12], [], [], [(0, [(6, .sc (.k .b))])], []⟩), (6, ⟨[2, 3, 4, 7, 8, 9, 10, 11], [], [], [(0, [(12, .sc (.k .b))])], []⟩), (1, ⟨[2, 3, 4], [], [], [(0, [(22, .sc (.k .b))])], []⟩)], lookH [], lookH []⟩
noncomputable def dL26MarkTurns (a a1 a2 : MV) : Option MV :=
 gA a fun cs =>
 gC cs fun m msA =>
 gI .i64 m fun SF =>
 gC msA fun m1 msA1 =>
 gI .i64 m1 fun ST =>
 gC msA1 fun m2 msA2 =>
 gL m2 fun L =>
 gC msA2 fun m3 msA3 =>
 gI .i64 m3 fun Stable =>
 gC msA3 fun m4 msA4 =>
 gH m4 fun Sum =>
 gN msA4 <|
 gA a1 fun cs1 =>
 gC cs1 fun m5 msA5 =>
 gI .i64 m5 fun By =>
 gC msA5 fun m6 msA6 =>
 gI .i64 m6 fun Slot =>
 gC msA6 fun m7 msA7 =>
 gH m7 fun Sum1 =>
 gN msA7 <|
 gI .i64 a2 fun a2N1 =>
 bd (
 lenN L fun len =>
 ifB (decide ((60 : Int) < (len : Int))) (
 some [.b true]) (
 bd (dL26Plain (.agg [.i .i64 SF, .i .i64 ST, .list L, .i .i64 Stable, .h Sum])) fun rA =>
 gA rA fun cs2 =>
 gC cs2 fun m8 msA8 =>
 gI .i64 m8 fun SF1 =>
 gC msA8 fun m9 msA9 =>
 gI .i64 m9 fun ST1 =>
 gC msA9 fun m10 msA10 =>
 gL m10 fun L1 =>
 gC msA10 fun m11 msA11 =>
 gI .i64 m11 fun Stable1 =>
 gC msA11 fun m12 msA12 =>
 gH m12 fun Sum2 =>
 gN msA12 <|
 bd (dR26Right (.agg [.i .i64 SF1, .i .i64 ST1, .list L1, .i .i64 Stable1, .h Sum2])) fun rA1 =>
 gB rA1 fun x =>
 some [.b (!x)])) fun vs =>
 gC vs fun m13 msA13 =>
 gB m13 fun x1 =>
 gN msA13 <|
 ifB x1 (
 bd (dL26Alive) fun rA2 =>
 gB rA2 fun x2 =>
 some (.b x2)) (
 bd (dL26Plain (.agg [.i .i64 SF, .i .i64 ST, .list L, .i .i64 Stable, .h Sum])) fun rA3 =>
 gA rA3 fun cs3 =>
 gC cs3 fun m14 msA14 =>
 gI .i64 m14 fun SF2 =>
 gC msA14 fun m15 msA15 =>
 gI .i64 m15 fun ST2 =>
 gC msA15 fun m16 msA16 =>
 gL m16 fun L2 =>
 gC msA16 fun m17 msA17 =>
 gI .i64 m17 fun Stable2 =>
 gC msA17 fun m18 msA18 =>
 gH m18 fun Sum3 =>
 gN msA18 <|
 bd (dMarkHear (.agg [.i .i64 SF, .i .i64 ST, .list L, .i .i64 Stable, .h Sum]) (.agg [.i .i64 By, .i .i64 Slot, .h Sum1])) fun rA4 =>
 gT rA4 fun vs1 =>
 gC vs1 fun m19 msA19 =>
 gA m19 fun cs4 =>
 gC cs4 fun m20 msA20 =>
 gI .i64 m20 fun SF3 =>
 gC msA20 fun m21 msA21 =>
 gI .i64 m21 fun ST3 =>
 gC msA21 fun m22 msA22 =>
 gL m22 fun L3 =>
 gC msA22 fun m23 msA23 =>
 gI .i64 m23 fun Stable3 =>
 gC msA23 fun m24 msA24 =>
 gH m24 fun Sum4 =>
 gN msA24 <|
 gC msA19 fun m25 msA25 =>
 gB m25 fun x3 =>
 gN msA25 <|
 bd (dL26One (.agg [.i .i64 By, .i .i64 Slot, .h Sum1])) fun rA5 =>
 gA rA5 fun cs5 =>
 gC cs5 fun m26 msA26 =>
 gI .i64 m26 fun By1 =>
 gC msA26 fun m27 msA27 =>
 gI .i64 m27 fun Slot1 =>
 gC msA27 fun m28 msA28 =>
 gH m28 fun Sum5 =>
 gN msA28 <|
 bd (dR26Hear (.agg [.i .i64 SF2, .i .i64 ST2, .list L2, .i .i64 Stable2, .h Sum3]) (.agg [.i .i64 By1, .i .i64 Slot1, .h Sum5])) fun rA6 =>
 gT rA6 fun vs2 =>
 gC vs2 fun m29 msA29 =>
 gA m29 fun cs6 =>
 gC cs6 fun m30 msA30 =>
 gI .i64 m30 fun SF4 =>
 gC msA30 fun m31 msA31 =>
 gI .i64 m31 fun ST4 =>
 gC msA31 fun m32 msA32 =>
 gL m32 fun L4 =>
 gC msA32 fun m33 msA33 =>
 gI .i64 m33 fun Stable4 =>
 gC msA33 fun m34 msA34 =>
 gH m34 fun Sum6 =>
 gN msA34 <|
 gC msA29 fun m35 msA35 =>
 gB m35 fun x4 =>
 gN msA35 <|
 bd (
 bd (dL26Plain (.agg [.i .i64 SF3, .i .i64 ST3, .list L3, .i .i64 Stable3, .h Sum4])) fun rA7 =>
 gA rA7 fun cs7 =>
 gC cs7 fun m36 msA36 =>
 gI .i64 m36 fun SF5 =>
 gC msA36 fun m37 msA37 =>
 gI .i64 m37 fun ST5 =>
 gC msA37 fun m38 msA38 =>
 gL m38 fun L5 =>
 gC msA38 fun m39 msA39 =>
 gI .i64 m39 fun Stable5 =>
 gC msA39 fun m40 msA40 =>
 gH m40 fun Sum7 =>
 gN msA40 <|
 bd (dR26Same (.agg [.i .i64 SF5, .i .i64 ST5, .list L5, .i .i64 Stable5, .h Sum7]) (.agg [.i .i64 SF4, .i .i64 ST4, .list L4, .i .i64 Stable4, .h Sum6])) fun rA8 =>
 gB rA8 fun x5 =>
 ifB x5 (
 ifB (decide (x3 = x4)) (
 bd (dMarkTrusted (.agg [.i .i64 SF, .i .i64 ST, .list L, .i .i64 Stable, .h Sum]) (.i .i64 Slot) (.h Sum1)) fun rA9 =>
 gB rA9 fun x6 =>
 bd (dR26Trusted (.agg [.i .i64 SF2, .i .i64 ST2, .list L2, .i .i64 Stable2, .h Sum3]) (.i .i64 Slot) (.h Sum1)) fun rA10 =>
 gB rA10 fun x7 =>
 some [.b (decide (x6 = x7))]) (
 some [.b false])) (
 some [.b false])) fun vs3 =>
 gC vs3 fun m41 msA41 =>
 gB m41 fun x8 =>
 gN msA41 <|
 bd (
 bd (dL26Alive) fun rA11 =>
 gB rA11 fun x9 =>
 ifB x9 (
 ifB x8 (
 bd (dMarkBehind (.agg [.i .i64 SF, .i .i64 ST, .list L, .i .i64 Stable, .h Sum]) (.i .i64 a2N1)) fun rA12 =>
 gI .i64 rA12 fun x10 =>
 bd (dR26Behind (.agg [.i .i64 SF2, .i .i64 ST2, .list L2, .i .i64 Stable2, .h Sum3]) (.i .i64 a2N1)) fun rA13 =>
 gI .i64 rA13 fun x11 =>
 ifB (decide (x10 = x11)) (
 bd (dL26Plain (.agg [.i .i64 SF, .i .i64 ST, .list L, .i .i64 Stable, .h Sum])) fun rA14 =>
 gA rA14 fun cs8 =>
 gC cs8 fun m42 msA42 =>
 gI .i64 m42 fun SF6 =>
 gC msA42 fun m43 msA43 =>
 gI .i64 m43 fun ST6 =>
 gC msA43 fun m44 msA44 =>
 gL m44 fun L6 =>
 gC msA44 fun m45 msA45 =>
 gI .i64 m45 fun Stable6 =>
 gC msA45 fun m46 msA46 =>
 gH m46 fun Sum8 =>
 gN msA46 <|
 bd (dR26Same (.agg [.i .i64 SF6, .i .i64 ST6, .list L6, .i .i64 Stable6, .h Sum8]) (.agg [.i .i64 SF2, .i .i64 ST2, .list L2, .i .i64 Stable2, .h Sum3])) fun rA15 =>
 gB rA15 fun x12 =>
 some [.b x12]) (
 some [.b false])) (
 some [.b false])) (
 some [.b false])) fun vs4 =>
 gC vs4 fun m47 msA47 =>
 gB m47 fun x13 =>
 gN msA47 <|
 some (.b x13))
theorem linkL26MarkTurns (a a1 a2 : MV) : bodyK cxL26MarkTurns [] none Try.f9 [a, a1, a2] = dL26MarkTurns a a1 a2 := by kernel_rfl
noncomputable def gL26MarkTurns : Nat → List MV → Option MV := addG 9 (lst3 dL26MarkTurns) gR26Behind
theorem soundL26MarkTurns : SoundG Try.prog cx gL26MarkTurns :=
  soundR26Behind.fn (c' := cxL26MarkTurns) (caps := []) ⟨rfl, rfl, rfl, rfl, rfl, rfl⟩ rfl tab_ok eq_ok fk_ok mix_ok Try.func9 (by kernel_rfl) (fun _ => rfl) (lst3_of linkL26MarkTurns)

noncomputable def cxL26Truth : Ctx := ⟨lookT tiTab, kk, gL26MarkTurns, gv, frs, lookN ftyOf, 14, [], [], lookL [], lookF fkTab, lookL [], lookH [], lookH [], lookH []⟩
noncomputable def dL26Truth (slot : MV) : Option MV :=
 gI .i64 slot fun slot1 =>
 chk (decide ((0 : Int) ≤ 0 ∧ (0 : Int) < 32)) <|
 chk (isByte (IntKind.wrap .u8 slot1)) <|
 chk (!decide ((256 : Int) = 0)) <|
 chk (decide ((0 : Int) ≤ 1 ∧ (1 : Int) < 32)) <|
 chk (isByte (IntKind.wrap .u8 (IntKind.wrap .i64 (Int.tdiv slot1 256)))) <|
 chk (decide ((0 : Int) ≤ 31 ∧ (31 : Int) < 32)) <|
 chk (isByte 1) <|
 some (.h (((Hash.zero.put (Int.toNat 0) (UInt8.ofNat (Int.toNat (IntKind.wrap .u8 slot1)))).put (Int.toNat 1) (UInt8.ofNat (Int.toNat (IntKind.wrap .u8 (IntKind.wrap .i64 (Int.tdiv slot1 256)))))).put (Int.toNat 31) (UInt8.ofNat (Int.toNat 1))))
theorem linkL26Truth (slot : MV) : bodyK cxL26Truth [] none Try.f57 [slot] = dL26Truth slot := by kernel_rfl
noncomputable def gL26Truth : Nat → List MV → Option MV := addG 57 (lst1 dL26Truth) gL26MarkTurns
theorem soundL26Truth : SoundG Try.prog cx gL26Truth :=
  soundL26MarkTurns.fn (c' := cxL26Truth) (caps := []) ⟨rfl, rfl, rfl, rfl, rfl, rfl⟩ rfl tab_ok eq_ok fk_ok mix_ok Try.func57 (by kernel_rfl) (fun _ => rfl) (lst1_of linkL26Truth)

noncomputable def cxL26MarkStable : Ctx := ⟨lookT tiTab, kk, gL26Truth, gv, frs, lookN ftyOf, 139, [], [], lookL [], lookF fkTab, lookL [(21, [0, 1, 2, 3, 4, 5, 6, 7, 8, 9, 10, 11, 12, 13, 14, 15, 16, 17, 18, 19, 20, 21, 22, 23, 24, 25, 26])], lookH [(21, ⟨[1, 2, 7, 11, 12, 13], [], [], [(0, [(136, .sc (.k .b))])], []⟩), (19, ⟨[1, 2, 7, 11, 12, 13, 14], [], [], [(0, [(109, .sc (.k .b))])], []⟩), (16, ⟨[1, 2, 7, 11, 12], [], [], [(0, [(79, .sc (.k .b))])], []⟩), (2, ⟨[1, 2, 3, 7, 8], [], [], [(0, [(33, .sc (.k .b))])], []⟩)], lookH [(17, ⟨[1, 2, 7, 11], [], [], [(0, [(12, .box [.k (.i .i64), .k (.i .i64), .k .h])])], []⟩), (9, ⟨[1, 2, 3, 7, 10], [], [], [(0, [(9, .sc (.k (.i .i64)))])], []⟩)], lookH [(13, ⟨[1, 2], [], [(7, .box [.k (.i .i64), .k (.i .i64), .k .l, .k (.i .i64), .k .h]), (11, .sc (.k (.i .i64)))], [(1, [(6, .sc (.k .b))]), (4, [])], []⟩), (6, ⟨[1, 2, 3, 7], [], [(9, .sc (.k (.i .i64))), (10, .sc (.k (.i .i64)))], [(2, [(9, .sc (.k (.i .i64)))])], []⟩)]⟩
noncomputable def dL26MarkStable (a a1 a2 : MV) : Option MV :=
 gA a fun cs =>
 gC cs fun m msA =>
 gI .i64 m fun F =>
 gC msA fun m1 msA1 =>
 gI .i64 m1 fun T =>
 gN msA1 <|
 gL a1 fun a1N1 =>
 gL a2 fun a2N1 =>
 bd (dMarkNew (.agg [.i .i64 F, .i .i64 T])) fun rA =>
 gT rA fun vs =>
 gC vs fun m2 msA2 =>
 gA m2 fun cs1 =>
 gC cs1 fun m3 msA3 =>
 gI .i64 m3 fun SF =>
 gC msA3 fun m4 msA4 =>
 gI .i64 m4 fun ST =>
 gC msA4 fun m5 msA5 =>
 gL m5 fun L =>
 gC msA5 fun m6 msA6 =>
 gI .i64 m6 fun Stable =>
 gC msA6 fun m7 msA7 =>
 gH m7 fun Sum =>
 gN msA7 <|
 gC msA2 fun m8 msA8 =>
 gI .i64 m8 fun x =>
 gN msA8 <|
 bd (
 ifB (!decide (x = 0)) (
 some [.b true]) (
 lenN a1N1 fun len =>
 bd (dSizeN (.agg [.i .i64 F, .i .i64 T])) fun rA1 =>
 gI .i64 rA1 fun x1 =>
 ifB (!decide ((len : Int) = x1)) (
 some [.b true]) (
 lenN a2N1 fun len1 =>
 some [.b (decide ((100 : Int) < (len1 : Int)))]))) fun vs1 =>
 gC vs1 fun m9 msA9 =>
 gB m9 fun x2 =>
 gN msA9 <|
 ifB x2 (
 bd (dL26Alive) fun rA2 =>
 gB rA2 fun x3 =>
 some (.b x3)) (
 bd (Loop (fun msA10 =>
 gC msA10 fun m10 msA11 =>
 gI .i64 m10 fun x4 =>
 gC msA11 fun m11 msA12 =>
 gI .i64 m11 fun x5 =>
 gN msA12 <|
 lenN a1N1 fun len2 =>
 ifB (decide (x5 < (len2 : Int))) (
 idx a1N1 x5 fun y =>
 gB y fun x6 =>
 bd (
 ifB x6 (
 some (0, [.i .i64 (IntKind.wrap .i64 (x4 + 1))])) (
 some (0, [.i .i64 x4]))) fun p1 =>
 chk (Nat.beq p1.1 0) <|
 gC p1.2 fun m12 msA13 =>
 gI .i64 m12 fun x7 =>
 gN msA13 <|
 some (.inl [.i .i64 x7, .i .i64 (IntKind.wrap .i64 (x5 + 1))])) (
 some (.inr (2, [.i .i64 x4])))) [.i .i64 0, .i .i64 0]) fun p =>
 chk (Nat.beq p.1 2) <|
 gC p.2 fun m13 msA14 =>
 gI .i64 m13 fun x8 =>
 gN msA14 <|
 ifB (decide (F < x8)) (
 bd (dL26Alive) fun rA3 =>
 gB rA3 fun x9 =>
 some (.b x9)) (
 bd (Loop (fun msA15 =>
 gC msA15 fun m14 msA16 =>
 gI .i64 m14 fun x10 =>
 gC msA16 fun m15 msA17 =>
 gI .i64 m15 fun x11 =>
 gC msA17 fun m16 msA18 =>
 gL m16 fun x12 =>
 gC msA18 fun m17 msA19 =>
 gI .i64 m17 fun x13 =>
 gC msA19 fun m18 msA20 =>
 gH m18 fun x14 =>
 gC msA20 fun m19 msA21 =>
 gI .i64 m19 fun x15 =>
 gN msA21 <|
 lenN a2N1 fun len3 =>
 ifB (decide (x15 < (len3 : Int))) (
 idx a2N1 x15 fun y1 =>
 gA y1 fun cs2 =>
 gC cs2 fun m20 msA22 =>
 gI .i64 m20 fun By =>
 gC msA22 fun m21 msA23 =>
 gI .i64 m21 fun Slot =>
 gC msA23 fun m22 msA24 =>
 gH m22 fun Sum1 =>
 gN msA24 <|
 bd (
 ifB (decide (By < 0)) (
 some [.b true]) (
 lenN a1N1 fun len4 =>
 ifB (decide ((len4 : Int) ≤ By)) (
 some [.b true]) (
 idx a1N1 By fun y2 =>
 gB y2 fun x16 =>
 some [.b (!x16)]))) fun vs2 =>
 gC vs2 fun m23 msA25 =>
 gB m23 fun x17 =>
 gN msA25 <|
 bd (
 ifB x17 (
 bd (dL26Truth (.i .i64 Slot)) fun rA4 =>
 gH rA4 fun x18 =>
 some (0, [.i .i64 By, .i .i64 Slot, .h x18])) (
 some (0, [.i .i64 By, .i .i64 Slot, .h Sum1]))) fun p3 =>
 chk (Nat.beq p3.1 0) <|
 gC p3.2 fun m24 msA26 =>
 gI .i64 m24 fun x19 =>
 gC msA26 fun m25 msA27 =>
 gI .i64 m25 fun x20 =>
 gC msA27 fun m26 msA28 =>
 gH m26 fun x21 =>
 gN msA28 <|
 bd (dMarkHear (.agg [.i .i64 x10, .i .i64 x11, .list x12, .i .i64 x13, .h x14]) (.agg [.i .i64 x19, .i .i64 x20, .h x21])) fun rA5 =>
 gT rA5 fun vs3 =>
 gC vs3 fun m27 msA29 =>
 gA m27 fun cs3 =>
 gC cs3 fun m28 msA30 =>
 gI .i64 m28 fun SF1 =>
 gC msA30 fun m29 msA31 =>
 gI .i64 m29 fun ST1 =>
 gC msA31 fun m30 msA32 =>
 gL m30 fun L1 =>
 gC msA32 fun m31 msA33 =>
 gI .i64 m31 fun Stable1 =>
 gC msA33 fun m32 msA34 =>
 gH m32 fun Sum2 =>
 gN msA34 <|
 gC msA29 fun m33 msA35 =>
 gB m33 fun x22 =>
 gN msA35 <|
 bd (
 ifB (decide (Stable1 < x13)) (
 some [.b true]) (
 ifB (!(decide (x22 = (decide (x13 < Stable1))))) (
 some [.b true]) (
 bd (dL26Plain (.agg [.i .i64 SF1, .i .i64 ST1, .list L1, .i .i64 Stable1, .h Sum2])) fun rA6 =>
 gA rA6 fun cs4 =>
 gC cs4 fun m34 msA36 =>
 gI .i64 m34 fun SF2 =>
 gC msA36 fun m35 msA37 =>
 gI .i64 m35 fun ST2 =>
 gC msA37 fun m36 msA38 =>
 gL m36 fun L2 =>
 gC msA38 fun m37 msA39 =>
 gI .i64 m37 fun Stable2 =>
 gC msA39 fun m38 msA40 =>
 gH m38 fun Sum3 =>
 gN msA40 <|
 bd (dR26Right (.agg [.i .i64 SF2, .i .i64 ST2, .list L2, .i .i64 Stable2, .h Sum3])) fun rA7 =>
 gB rA7 fun x23 =>
 some [.b (!x23)]))) fun vs4 =>
 gC vs4 fun m39 msA41 =>
 gB m39 fun x24 =>
 gN msA41 <|
 ifB x24 (
 some (.inr (1, [.b false]))) (
 bd (
 ifB (decide ((0 : Int) < Stable1)) (
 bd (dL26Truth (.i .i64 Stable1)) fun rA8 =>
 gH rA8 fun x25 =>
 ifB (!(decide (Sum2 = x25))) (
 some [.b true]) (
 bd (dMarkTrusted (.agg [.i .i64 SF1, .i .i64 ST1, .list L1, .i .i64 Stable1, .h Sum2]) (.i .i64 x20) (.h x21)) fun rA9 =>
 gB rA9 fun x26 =>
 ifB x26 (
 bd (dL26Truth (.i .i64 x20)) fun rA10 =>
 gH rA10 fun x27 =>
 some [.b (!(decide (x21 = x27)))]) (
 some [.b false]))) (
 bd (dMarkTrusted (.agg [.i .i64 SF1, .i .i64 ST1, .list L1, .i .i64 Stable1, .h Sum2]) (.i .i64 x20) (.h x21)) fun rA11 =>
 gB rA11 fun x28 =>
 ifB x28 (
 bd (dL26Truth (.i .i64 x20)) fun rA12 =>
 gH rA12 fun x29 =>
 some [.b (!(decide (x21 = x29)))]) (
 some [.b false]))) fun vs5 =>
 gC vs5 fun m40 msA42 =>
 gB m40 fun x30 =>
 gN msA42 <|
 ifB x30 (
 some (.inr (1, [.b false]))) (
 some (.inl [.i .i64 SF1, .i .i64 ST1, .list L1, .i .i64 Stable1, .h Sum2, .i .i64 (IntKind.wrap .i64 (x15 + 1))])))) (
 some (.inr (4, [])))) [.i .i64 SF, .i .i64 ST, .list L, .i .i64 Stable, .h Sum, .i .i64 0]) fun p2 =>
 ifB (Nat.beq p2.1 4) (
 gN p2.2 <|
 bd (dL26Alive) fun rA13 =>
 gB rA13 fun x31 =>
 some (.b x31)) (
 chk (Nat.beq p2.1 1) <|
 gC p2.2 fun m41 msA43 =>
 gB m41 fun x32 =>
 gN msA43 <|
 some (.b x32))))
theorem linkL26MarkStable (a a1 a2 : MV) : bodyK cxL26MarkStable [] none Try.f10 [a, a1, a2] = dL26MarkStable a a1 a2 := by kernel_rfl
noncomputable def gL26MarkStable : Nat → List MV → Option MV := addG 10 (lst3 dL26MarkStable) gL26Truth
theorem soundL26MarkStable : SoundG Try.prog cx gL26MarkStable :=
  soundL26Truth.fn (c' := cxL26MarkStable) (caps := []) ⟨rfl, rfl, rfl, rfl, rfl, rfl⟩ rfl tab_ok eq_ok fk_ok mix_ok Try.func10 (by kernel_rfl) (fun _ => rfl) (lst3_of linkL26MarkStable)

noncomputable def cxSlicesEqualMarkMark : Ctx := ⟨lookT tiTab, kk, gL26MarkStable, gv, frs, lookN ftyOf, 26, [], [], lookL [], lookF fkTab, lookL [(6, [0, 1, 2, 3, 4, 5, 6, 7, 8])], lookH [], lookH [], lookH [(4, ⟨[0, 1, 12], [], [(13, .sc (.k (.i .i64)))], [(1, [(4, .sc (.k .b))]), (2, [])], []⟩)]⟩
noncomputable def dSlicesEqualMarkMark (s1 s2 : MV) : Option MV :=
 gL s1 fun s1N1 =>
 gL s2 fun s2N1 =>
 lenN s1N1 fun len =>
 lenN s2N1 fun len1 =>
 ifB (!decide ((len : Int) = (len1 : Int))) (
 some (.b false)) (
 lenN s1N1 fun len2 =>
 bd (Loop (fun msA =>
 gC msA fun m msA1 =>
 gI .i64 m fun x =>
 gN msA1 <|
 ifB (decide (x < (len2 : Int))) (
 idx s1N1 x fun y =>
 gA y fun cs =>
 gC cs fun m1 msA2 =>
 gI .i64 m1 fun By =>
 gC msA2 fun m2 msA3 =>
 gI .i64 m2 fun Slot =>
 gC msA3 fun m3 msA4 =>
 gH m3 fun Sum =>
 gN msA4 <|
 idx s2N1 x fun y1 =>
 gA y1 fun cs1 =>
 gC cs1 fun m4 msA5 =>
 gI .i64 m4 fun By1 =>
 gC msA5 fun m5 msA6 =>
 gI .i64 m5 fun Slot1 =>
 gC msA6 fun m6 msA7 =>
 gH m6 fun Sum1 =>
 gN msA7 <|
 ifB (!((decide (By = By1)) && ((decide (Slot = Slot1)) && (decide (Sum = Sum1))))) (
 some (.inr (1, [.b false]))) (
 some (.inl [.i .i64 (IntKind.wrap .i64 (x + 1))]))) (
 some (.inr (2, [])))) [.i .i64 0]) fun p =>
 ifB (Nat.beq p.1 2) (
 gN p.2 <|
 some (.b true)) (
 chk (Nat.beq p.1 1) <|
 gC p.2 fun m7 msA8 =>
 gB m7 fun x1 =>
 gN msA8 <|
 some (.b x1)))
theorem linkSlicesEqualMarkMark (s1 s2 : MV) : bodyK cxSlicesEqualMarkMark [] none Try.f95 [s1, s2] = dSlicesEqualMarkMark s1 s2 := by kernel_rfl
noncomputable def gSlicesEqualMarkMark : Nat → List MV → Option MV := addG 95 (lst2 dSlicesEqualMarkMark) gL26MarkStable
theorem soundSlicesEqualMarkMark : SoundG Try.prog cx gSlicesEqualMarkMark :=
  soundL26MarkStable.fn (c' := cxSlicesEqualMarkMark) (caps := []) ⟨rfl, rfl, rfl, rfl, rfl, rfl⟩ rfl tab_ok eq_ok fk_ok mix_ok Try.func95 (by kernel_rfl) (fun _ => rfl) (lst2_of linkSlicesEqualMarkMark)

noncomputable def cxMarkSame : Ctx := ⟨lookT tiTab, kk, gSlicesEqualMarkMark, gv, frs, lookN ftyOf, 31, [], [], lookL [], lookF fkTab, lookL [], lookH [(1, ⟨[2, 3], [], [], [(0, [(4, .sc (.k .b))])], []⟩)], lookH [], lookH []⟩
noncomputable def dMarkSame (a b : MV) : Option MV :=
 gA a fun cs =>
 gC cs fun m msA =>
 gI .i64 m fun SF =>
 gC msA fun m1 msA1 =>
 gI .i64 m1 fun ST =>
 gC msA1 fun m2 msA2 =>
 gL m2 fun L =>
 gC msA2 fun m3 msA3 =>
 gI .i64 m3 fun Stable =>
 gC msA3 fun m4 msA4 =>
 gH m4 fun Sum =>
 gN msA4 <|
 gA b fun cs1 =>
 gC cs1 fun m5 msA5 =>
 gI .i64 m5 fun SF1 =>
 gC msA5 fun m6 msA6 =>
 gI .i64 m6 fun ST1 =>
 gC msA6 fun m7 msA7 =>
 gL m7 fun L1 =>
 gC msA7 fun m8 msA8 =>
 gI .i64 m8 fun Stable1 =>
 gC msA8 fun m9 msA9 =>
 gH m9 fun Sum1 =>
 gN msA9 <|
 bd (
 ifB ((decide (SF = SF1)) && (decide (ST = ST1))) (
 ifB (decide (Stable = Stable1)) (
 ifB (decide (Sum = Sum1)) (
 bd (dSlicesEqualMarkMark (.list L) (.list L1)) fun rA =>
 gB rA fun x =>
 some [.b x]) (
 some [.b false])) (
 some [.b false])) (
 some [.b false])) fun vs =>
 gC vs fun m10 msA10 =>
 gB m10 fun x1 =>
 gN msA10 <|
 some (.b x1)
theorem linkMarkSame (a b : MV) : bodyK cxMarkSame [] none Try.f58 [a, b] = dMarkSame a b := by kernel_rfl
noncomputable def gMarkSame : Nat → List MV → Option MV := addG 58 (lst2 dMarkSame) gSlicesEqualMarkMark
theorem soundMarkSame : SoundG Try.prog cx gMarkSame :=
  soundSlicesEqualMarkMark.fn (c' := cxMarkSame) (caps := []) ⟨rfl, rfl, rfl, rfl, rfl, rfl⟩ rfl tab_ok eq_ok fk_ok mix_ok Try.func58 (by kernel_rfl) (fun _ => rfl) (lst2_of linkMarkSame)

noncomputable def cxL26MarkNewest : Ctx := ⟨lookT tiTab, kk, gMarkSame, gv, frs, lookN ftyOf, 87, [], [], lookL [], lookF fkTab, lookL [(12, [0, 1, 2, 3, 4, 5, 6, 7, 8, 9, 10])], lookH [(13, ⟨[4, 7, 10, 11, 12], [], [], [(0, [(6, .sc (.k .b))])], []⟩), (12, ⟨[4, 7, 10, 11, 13], [], [], [(0, [(12, .sc (.k .b))])], []⟩), (1, ⟨[2, 3, 4], [], [], [(0, [(23, .sc (.k .b))])], []⟩)], lookH [], lookH [(10, ⟨[4, 7, 10, 11], [], [(12, .sc (.k .b)), (13, .sc (.k (.i .i64)))], [(2, [(12, .sc (.k .b))])], []⟩)]⟩
noncomputable def dL26MarkNewest (a a1 a2 : MV) : Option MV :=
 gA a fun cs =>
 gC cs fun m msA =>
 gI .i64 m fun SF =>
 gC msA fun m1 msA1 =>
 gI .i64 m1 fun ST =>
 gC msA1 fun m2 msA2 =>
 gL m2 fun L =>
 gC msA2 fun m3 msA3 =>
 gI .i64 m3 fun Stable =>
 gC msA3 fun m4 msA4 =>
 gH m4 fun Sum =>
 gN msA4 <|
 gA a1 fun cs1 =>
 gC cs1 fun m5 msA5 =>
 gI .i64 m5 fun By =>
 gC msA5 fun m6 msA6 =>
 gI .i64 m6 fun Slot =>
 gC msA6 fun m7 msA7 =>
 gH m7 fun Sum1 =>
 gN msA7 <|
 gI .u8 a2 fun a2N1 =>
 bd (
 lenN L fun len =>
 ifB (decide ((60 : Int) < (len : Int))) (
 some [.b true]) (
 bd (dL26Plain (.agg [.i .i64 SF, .i .i64 ST, .list L, .i .i64 Stable, .h Sum])) fun rA =>
 gA rA fun cs2 =>
 gC cs2 fun m8 msA8 =>
 gI .i64 m8 fun SF1 =>
 gC msA8 fun m9 msA9 =>
 gI .i64 m9 fun ST1 =>
 gC msA9 fun m10 msA10 =>
 gL m10 fun L1 =>
 gC msA10 fun m11 msA11 =>
 gI .i64 m11 fun Stable1 =>
 gC msA11 fun m12 msA12 =>
 gH m12 fun Sum2 =>
 gN msA12 <|
 bd (dR26Right (.agg [.i .i64 SF1, .i .i64 ST1, .list L1, .i .i64 Stable1, .h Sum2])) fun rA1 =>
 gB rA1 fun x =>
 some [.b (!x)])) fun vs =>
 gC vs fun m13 msA13 =>
 gB m13 fun x1 =>
 gN msA13 <|
 ifB x1 (
 bd (dL26Alive) fun rA2 =>
 gB rA2 fun x2 =>
 some (.b x2)) (
 bd (dMarkHear (.agg [.i .i64 SF, .i .i64 ST, .list L, .i .i64 Stable, .h Sum]) (.agg [.i .i64 By, .i .i64 Slot, .h Sum1])) fun rA3 =>
 gT rA3 fun vs1 =>
 gC vs1 fun m14 msA14 =>
 gA m14 fun cs3 =>
 gC cs3 fun m15 msA15 =>
 gI .i64 m15 fun SF2 =>
 gC msA15 fun m16 msA16 =>
 gI .i64 m16 fun ST2 =>
 gC msA16 fun m17 msA17 =>
 gL m17 fun L2 =>
 gC msA17 fun m18 msA18 =>
 gI .i64 m18 fun Stable2 =>
 gC msA18 fun m19 msA19 =>
 gH m19 fun Sum3 =>
 gN msA19 <|
 gC msA14 fun m20 msA20 =>
 gB m20 fun x3 =>
 gN msA20 <|
 chk (isByte 9) <|
 bd (dMarkHear (.agg [.i .i64 SF2, .i .i64 ST2, .list L2, .i .i64 Stable2, .h Sum3]) (.agg [.i .i64 By, .i .i64 (IntKind.wrap .i64 (Slot - (IntKind.wrap .i64 a2N1))), .h (Hash.zero.put 0 (UInt8.ofNat (Int.toNat 9)))])) fun rA4 =>
 gT rA4 fun vs2 =>
 gC vs2 fun m21 msA21 =>
 gA m21 fun cs4 =>
 gC cs4 fun m22 msA22 =>
 gI .i64 m22 fun SF3 =>
 gC msA22 fun m23 msA23 =>
 gI .i64 m23 fun ST3 =>
 gC msA23 fun m24 msA24 =>
 gL m24 fun L3 =>
 gC msA24 fun m25 msA25 =>
 gI .i64 m25 fun Stable3 =>
 gC msA25 fun m26 msA26 =>
 gH m26 fun Sum4 =>
 gN msA26 <|
 gC msA21 fun m27 msA27 =>
 gB m27 fun x4 =>
 gN msA27 <|
 bd (dMarkSame (.agg [.i .i64 SF2, .i .i64 ST2, .list L2, .i .i64 Stable2, .h Sum3]) (.agg [.i .i64 SF, .i .i64 ST, .list L, .i .i64 Stable, .h Sum])) fun rA5 =>
 gB rA5 fun x5 =>
 ifB x5 (
 bd (dL26Alive) fun rA6 =>
 gB rA6 fun x6 =>
 some (.b x6)) (
 bd (Loop (fun msA28 =>
 gC msA28 fun m28 msA29 =>
 gB m28 fun x7 =>
 gC msA29 fun m29 msA30 =>
 gI .i64 m29 fun x8 =>
 gN msA30 <|
 lenN L2 fun len1 =>
 ifB (decide (x8 < (len1 : Int))) (
 bd (
 ifB x7 (
 some [.b true]) (
 idx L2 x8 fun y =>
 gA y fun cs5 =>
 gC cs5 fun m30 msA31 =>
 gI .i64 m30 fun By1 =>
 gC msA31 fun m31 msA32 =>
 gI .i64 m31 fun Slot1 =>
 gC msA32 fun m32 msA33 =>
 gH m32 fun Sum5 =>
 gN msA33 <|
 some [.b ((decide (By1 = By)) && ((decide (Slot1 = Slot)) && (decide (Sum5 = Sum1))))])) fun vs3 =>
 gC vs3 fun m33 msA34 =>
 gB m33 fun x9 =>
 gN msA34 <|
 some (.inl [.b x9, .i .i64 (IntKind.wrap .i64 (x8 + 1))])) (
 some (.inr (2, [.b x7])))) [.b false, .i .i64 0]) fun p =>
 chk (Nat.beq p.1 2) <|
 gC p.2 fun m34 msA35 =>
 gB m34 fun x10 =>
 gN msA35 <|
 bd (
 bd (dL26Alive) fun rA7 =>
 gB rA7 fun x11 =>
 ifB x11 (
 ifB x10 (
 ifB (!x4) (
 bd (dMarkSame (.agg [.i .i64 SF2, .i .i64 ST2, .list L2, .i .i64 Stable2, .h Sum3]) (.agg [.i .i64 SF3, .i .i64 ST3, .list L3, .i .i64 Stable3, .h Sum4])) fun rA8 =>
 gB rA8 fun x12 =>
 ifB x12 (
 bd (dMarkBehind (.agg [.i .i64 SF2, .i .i64 ST2, .list L2, .i .i64 Stable2, .h Sum3]) (.i .i64 Slot)) fun rA9 =>
 gI .i64 rA9 fun x13 =>
 some [.b (decide ((1 : Int) ≤ x13))]) (
 some [.b false])) (
 some [.b false])) (
 some [.b false])) (
 some [.b false])) fun vs4 =>
 gC vs4 fun m35 msA36 =>
 gB m35 fun x14 =>
 gN msA36 <|
 some (.b x14)))
theorem linkL26MarkNewest (a a1 a2 : MV) : bodyK cxL26MarkNewest [] none Try.f11 [a, a1, a2] = dL26MarkNewest a a1 a2 := by kernel_rfl
noncomputable def gL26MarkNewest : Nat → List MV → Option MV := addG 11 (lst3 dL26MarkNewest) gMarkSame
theorem soundL26MarkNewest : SoundG Try.prog cx gL26MarkNewest :=
  soundMarkSame.fn (c' := cxL26MarkNewest) (caps := []) ⟨rfl, rfl, rfl, rfl, rfl, rfl⟩ rfl tab_ok eq_ok fk_ok mix_ok Try.func11 (by kernel_rfl) (fun _ => rfl) (lst3_of linkL26MarkNewest)

noncomputable def cxR26New : Ctx := ⟨lookT tiTab, kk, gL26MarkNewest, gv, frs, lookN ftyOf, 10, [], [], lookL [], lookF fkTab, lookL [], lookH [], lookH [], lookH []⟩
noncomputable def dR26New (sA : MV) : Option MV :=
 gA sA fun cs =>
 gC cs fun m msA =>
 gI .i64 m fun F =>
 gC msA fun m1 msA1 =>
 gI .i64 m1 fun T =>
 gN msA1 <|
 bd (dR07Right (.agg [.i .i64 F, .i .i64 T])) fun rA =>
 gB rA fun x =>
 ifB (!x) (
 some (.tup [.agg [.i .i64 0, .i .i64 0, .list ([] : List MV), .i .i64 0, .h Hash.zero], .i .i64 1])) (
 some (.tup [.agg [.i .i64 F, .i .i64 T, .list ([] : List MV), .i .i64 0, .h Hash.zero], .i .i64 0]))
theorem linkR26New (sA : MV) : bodyK cxR26New [] none Try.f65 [sA] = dR26New sA := by kernel_rfl
noncomputable def gR26New : Nat → List MV → Option MV := addG 65 (lst1 dR26New) gL26MarkNewest
theorem soundR26New : SoundG Try.prog cx gR26New :=
  soundL26MarkNewest.fn (c' := cxR26New) (caps := []) ⟨rfl, rfl, rfl, rfl, rfl, rfl⟩ rfl tab_ok eq_ok fk_ok mix_ok Try.func65 (by kernel_rfl) (fun _ => rfl) (lst1_of linkR26New)

noncomputable def cxMarkRight : Ctx := ⟨lookT tiTab, kk, gR26New, gv, frs, lookN ftyOf, 59, [], [], lookL [], lookF fkTab, lookL [(6, [0, 1, 2, 3, 4, 5, 6, 7, 8, 9, 10, 11, 12, 13, 14, 15, 16, 17, 18, 19])], lookH [(6, ⟨[1, 3, 4, 31, 32, 33], [], [], [(0, [(57, .sc (.k .b))])], []⟩), (1, ⟨[1], [], [], [(0, [(29, .sc (.k .b))])], []⟩)], lookH [], lookH [(4, ⟨[1, 31, 32], [], [(33, .sc (.k (.i .i64)))], [(1, [(2, .sc (.k .b))]), (2, [])], []⟩)]⟩
noncomputable def dMarkRight (m : MV) : Option MV :=
 gA m fun cs =>
 gC cs fun m1 msA =>
 gI .i64 m1 fun SF =>
 gC msA fun m2 msA1 =>
 gI .i64 m2 fun ST =>
 gC msA1 fun m3 msA2 =>
 gL m3 fun L =>
 gC msA2 fun m4 msA3 =>
 gI .i64 m4 fun Stable =>
 gC msA3 fun m5 msA4 =>
 gH m5 fun Sum =>
 gN msA4 <|
 bd (
 bd (dSizeRight (.agg [.i .i64 SF, .i .i64 ST])) fun rA =>
 gB rA fun x =>
 ifB (!x) (
 some [.b true]) (
 ifB (decide (Stable < 0)) (
 some [.b true]) (
 ifB (decide ((100000 : Int) < Stable)) (
 some [.b true]) (
 ifB (decide (Stable = 0)) (
 some [.b (!(decide (Sum = Hash.zero)))]) (
 some [.b false]))))) fun vs =>
 gC vs fun m6 msA5 =>
 gB m6 fun x1 =>
 gN msA5 <|
 ifB x1 (
 some (.b false)) (
 lenN L fun len =>
 bd (Loop (fun msA6 =>
 gC msA6 fun m7 msA7 =>
 gI .i64 m7 fun x2 =>
 gN msA7 <|
 ifB (decide (x2 < (len : Int))) (
 idx L x2 fun y =>
 gA y fun cs1 =>
 gC cs1 fun m8 msA8 =>
 gI .i64 m8 fun By =>
 gC msA8 fun m9 msA9 =>
 gI .i64 m9 fun Slot =>
 gC msA9 fun m10 msA10 =>
 gH m10 fun Sum1 =>
 gN msA10 <|
 bd (
 bd (dMarkMarksMay (.agg [.i .i64 SF, .i .i64 ST, .list L, .i .i64 Stable, .h Sum]) (.agg [.i .i64 By, .i .i64 Slot, .h Sum1])) fun rA1 =>
 gB rA1 fun x3 =>
 ifB (!x3) (
 some [.b true]) (
 ifB (decide ((0 : Int) < x2)) (
 idx L (IntKind.wrap .i64 (x2 - 1)) fun y1 =>
 gA y1 fun cs2 =>
 gC cs2 fun m11 msA11 =>
 gI .i64 m11 fun By1 =>
 gC msA11 fun m12 msA12 =>
 gI .i64 m12 fun Slot1 =>
 gC msA12 fun m13 msA13 =>
 gH m13 fun Sum2 =>
 gN msA13 <|
 some [.b (decide (By ≤ By1))]) (
 some [.b false]))) fun vs1 =>
 gC vs1 fun m14 msA14 =>
 gB m14 fun x4 =>
 gN msA14 <|
 ifB x4 (
 some (.inr (1, [.b false]))) (
 some (.inl [.i .i64 (IntKind.wrap .i64 (x2 + 1))]))) (
 some (.inr (2, [])))) [.i .i64 0]) fun p =>
 ifB (Nat.beq p.1 2) (
 gN p.2 <|
 some (.b true)) (
 chk (Nat.beq p.1 1) <|
 gC p.2 fun m15 msA15 =>
 gB m15 fun x5 =>
 gN msA15 <|
 some (.b x5)))
theorem linkMarkRight (m : MV) : bodyK cxMarkRight [] none Try.f67 [m] = dMarkRight m := by kernel_rfl
noncomputable def gMarkRight : Nat → List MV → Option MV := addG 67 (lst1 dMarkRight) gR26New
theorem soundMarkRight : SoundG Try.prog cx gMarkRight :=
  soundR26New.fn (c' := cxMarkRight) (caps := []) ⟨rfl, rfl, rfl, rfl, rfl, rfl⟩ rfl tab_ok eq_ok fk_ok mix_ok Try.func67 (by kernel_rfl) (fun _ => rfl) (lst1_of linkMarkRight)

noncomputable def cxL26MarkMay : Ctx := ⟨lookT tiTab, kk, gMarkRight, gv, frs, lookN ftyOf, 64, [], [], lookL [], lookF fkTab, lookL [(5, [0, 1, 2, 4, 3, 5, 6, 7, 8, 9, 10, 11, 12, 13, 15, 14, 16, 17, 18, 19, 20, 21, 22, 24, 26, 23, 25, 27, 28, 29, 30, 31])], lookH [(5, ⟨[3, 4, 7, 8, 9, 10], [], [], [(0, [(6, .sc (.k .b))])], []⟩), (1, ⟨[3, 4, 5], [], [], [(0, [(20, .sc (.k .b))])], []⟩)], lookH [], lookH []⟩
noncomputable def dL26MarkMay (a b sA : MV) : Option MV :=
 gA a fun cs =>
 gC cs fun m msA =>
 gI .i64 m fun SF =>
 gC msA fun m1 msA1 =>
 gI .i64 m1 fun ST =>
 gC msA1 fun m2 msA2 =>
 gL m2 fun L =>
 gC msA2 fun m3 msA3 =>
 gI .i64 m3 fun Stable =>
 gC msA3 fun m4 msA4 =>
 gH m4 fun Sum =>
 gN msA4 <|
 gA b fun cs1 =>
 gC cs1 fun m5 msA5 =>
 gI .i64 m5 fun SF1 =>
 gC msA5 fun m6 msA6 =>
 gI .i64 m6 fun ST1 =>
 gC msA6 fun m7 msA7 =>
 gL m7 fun L1 =>
 gC msA7 fun m8 msA8 =>
 gI .i64 m8 fun Stable1 =>
 gC msA8 fun m9 msA9 =>
 gH m9 fun Sum1 =>
 gN msA9 <|
 gA sA fun cs2 =>
 gC cs2 fun m10 msA10 =>
 gI .i64 m10 fun F =>
 gC msA10 fun m11 msA11 =>
 gI .i64 m11 fun T =>
 gN msA11 <|
 bd (
 lenN L fun len =>
 ifB (decide ((60 : Int) < (len : Int))) (
 some [.b true]) (
 lenN L1 fun len1 =>
 some [.b (decide ((60 : Int) < (len1 : Int)))])) fun vs =>
 gC vs fun m12 msA12 =>
 gB m12 fun x =>
 gN msA12 <|
 ifB x (
 bd (dL26Alive) fun rA =>
 gB rA fun x1 =>
 some (.b x1)) (
 bd (dMarkNew (.agg [.i .i64 F, .i .i64 T])) fun rA1 =>
 gT rA1 fun vs1 =>
 gC vs1 fun m13 msA13 =>
 gA m13 fun cs3 =>
 gC cs3 fun m14 msA14 =>
 gI .i64 m14 fun SF2 =>
 gC msA14 fun m15 msA15 =>
 gI .i64 m15 fun ST2 =>
 gC msA15 fun m16 msA16 =>
 gL m16 fun L2 =>
 gC msA16 fun m17 msA17 =>
 gI .i64 m17 fun Stable2 =>
 gC msA17 fun m18 msA18 =>
 gH m18 fun Sum2 =>
 gN msA18 <|
 gC msA13 fun m19 msA19 =>
 gI .i64 m19 fun x2 =>
 gN msA19 <|
 bd (dL26Sized (.agg [.i .i64 F, .i .i64 T])) fun rA2 =>
 gA rA2 fun cs4 =>
 gC cs4 fun m20 msA20 =>
 gI .i64 m20 fun F1 =>
 gC msA20 fun m21 msA21 =>
 gI .i64 m21 fun T1 =>
 gN msA21 <|
 bd (dR26New (.agg [.i .i64 F1, .i .i64 T1])) fun rA3 =>
 gT rA3 fun vs2 =>
 gC vs2 fun m22 msA22 =>
 gA m22 fun cs5 =>
 gC cs5 fun m23 msA23 =>
 gI .i64 m23 fun SF3 =>
 gC msA23 fun m24 msA24 =>
 gI .i64 m24 fun ST3 =>
 gC msA24 fun m25 msA25 =>
 gL m25 fun L3 =>
 gC msA25 fun m26 msA26 =>
 gI .i64 m26 fun Stable3 =>
 gC msA26 fun m27 msA27 =>
 gH m27 fun Sum3 =>
 gN msA27 <|
 gC msA22 fun m28 msA28 =>
 gI .i64 m28 fun x3 =>
 gN msA28 <|
 bd (
 bd (dL26Alive) fun rA4 =>
 gB rA4 fun x4 =>
 ifB x4 (
 bd (dL26Plain (.agg [.i .i64 SF2, .i .i64 ST2, .list L2, .i .i64 Stable2, .h Sum2])) fun rA5 =>
 gA rA5 fun cs6 =>
 gC cs6 fun m29 msA29 =>
 gI .i64 m29 fun SF4 =>
 gC msA29 fun m30 msA30 =>
 gI .i64 m30 fun ST4 =>
 gC msA30 fun m31 msA31 =>
 gL m31 fun L4 =>
 gC msA31 fun m32 msA32 =>
 gI .i64 m32 fun Stable4 =>
 gC msA32 fun m33 msA33 =>
 gH m33 fun Sum4 =>
 gN msA33 <|
 bd (dR26Same (.agg [.i .i64 SF4, .i .i64 ST4, .list L4, .i .i64 Stable4, .h Sum4]) (.agg [.i .i64 SF3, .i .i64 ST3, .list L3, .i .i64 Stable3, .h Sum3])) fun rA6 =>
 gB rA6 fun x5 =>
 ifB x5 (
 ifB (decide (x2 = x3)) (
 bd (dMarkRight (.agg [.i .i64 SF, .i .i64 ST, .list L, .i .i64 Stable, .h Sum])) fun rA7 =>
 gB rA7 fun x6 =>
 bd (dL26Plain (.agg [.i .i64 SF, .i .i64 ST, .list L, .i .i64 Stable, .h Sum])) fun rA8 =>
 gA rA8 fun cs7 =>
 gC cs7 fun m34 msA34 =>
 gI .i64 m34 fun SF5 =>
 gC msA34 fun m35 msA35 =>
 gI .i64 m35 fun ST5 =>
 gC msA35 fun m36 msA36 =>
 gL m36 fun L5 =>
 gC msA36 fun m37 msA37 =>
 gI .i64 m37 fun Stable5 =>
 gC msA37 fun m38 msA38 =>
 gH m38 fun Sum5 =>
 gN msA38 <|
 bd (dR26Right (.agg [.i .i64 SF5, .i .i64 ST5, .list L5, .i .i64 Stable5, .h Sum5])) fun rA9 =>
 gB rA9 fun x7 =>
 ifB (decide (x6 = x7)) (
 bd (dMarkSame (.agg [.i .i64 SF, .i .i64 ST, .list L, .i .i64 Stable, .h Sum]) (.agg [.i .i64 SF1, .i .i64 ST1, .list L1, .i .i64 Stable1, .h Sum1])) fun rA10 =>
 gB rA10 fun x8 =>
 bd (dL26Plain (.agg [.i .i64 SF, .i .i64 ST, .list L, .i .i64 Stable, .h Sum])) fun rA11 =>
 gA rA11 fun cs8 =>
 gC cs8 fun m39 msA39 =>
 gI .i64 m39 fun SF6 =>
 gC msA39 fun m40 msA40 =>
 gI .i64 m40 fun ST6 =>
 gC msA40 fun m41 msA41 =>
 gL m41 fun L6 =>
 gC msA41 fun m42 msA42 =>
 gI .i64 m42 fun Stable6 =>
 gC msA42 fun m43 msA43 =>
 gH m43 fun Sum6 =>
 gN msA43 <|
 bd (dL26Plain (.agg [.i .i64 SF1, .i .i64 ST1, .list L1, .i .i64 Stable1, .h Sum1])) fun rA12 =>
 gA rA12 fun cs9 =>
 gC cs9 fun m44 msA44 =>
 gI .i64 m44 fun SF7 =>
 gC msA44 fun m45 msA45 =>
 gI .i64 m45 fun ST7 =>
 gC msA45 fun m46 msA46 =>
 gL m46 fun L7 =>
 gC msA46 fun m47 msA47 =>
 gI .i64 m47 fun Stable7 =>
 gC msA47 fun m48 msA48 =>
 gH m48 fun Sum7 =>
 gN msA48 <|
 bd (dR26Same (.agg [.i .i64 SF6, .i .i64 ST6, .list L6, .i .i64 Stable6, .h Sum6]) (.agg [.i .i64 SF7, .i .i64 ST7, .list L7, .i .i64 Stable7, .h Sum7])) fun rA13 =>
 gB rA13 fun x9 =>
 some [.b (decide (x8 = x9))]) (
 some [.b false])) (
 some [.b false])) (
 some [.b false])) (
 some [.b false])) fun vs3 =>
 gC vs3 fun m49 msA49 =>
 gB m49 fun x10 =>
 gN msA49 <|
 some (.b x10))
theorem linkL26MarkMay (a b sA : MV) : bodyK cxL26MarkMay [] none Try.f15 [a, b, sA] = dL26MarkMay a b sA := by kernel_rfl
noncomputable def gL26MarkMay : Nat → List MV → Option MV := addG 15 (lst3 dL26MarkMay) gMarkRight
theorem soundL26MarkMay : SoundG Try.prog cx gL26MarkMay :=
  soundMarkRight.fn (c' := cxL26MarkMay) (caps := []) ⟨rfl, rfl, rfl, rfl, rfl, rfl⟩ rfl tab_ok eq_ok fk_ok mix_ok Try.func15 (by kernel_rfl) (fun _ => rfl) (lst3_of linkL26MarkMay)
end Dn.S
