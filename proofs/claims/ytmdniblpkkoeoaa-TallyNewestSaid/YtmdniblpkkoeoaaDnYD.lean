import Derived.Test.YtmdniblpkkoeoaaDnYTab
import Derived.Test.YtmdniblpkkoeoaaDnC
import Derived.Test.YtmdniblpkkoeoaaDnYT
import Derived.KernelRfl
import Derived.Test.YtmdniblpkkoeoaaProg
/-
  The functions, on plain values, and their contracts. Conditions: none.
-/
open Go Dn Go.Proofs
set_option linter.unusedVariables false
set_option linter.unusedSimpArgs false
set_option maxRecDepth 100000
namespace Dn.S
theorem tab_ok : TIok Try.prog (lookT tiTab) := tabB_ok (by kernel_rfl)
theorem eq_ok : EqOK Try.prog (lookT tiTab) := eqTabB_ok (by kernel_rfl)
theorem mix_ok : Try.prog.follows .mixedOrders = true := by kernel_rfl
def lookH : List (Nat × Hint) → Nat → Hint
  | [], _ => default
  | (k, s) :: r, t => bif Nat.beq k t then s else lookH r t
def lookL : List (Nat × List Nat) → Nat → List Nat
  | [], _ => []
  | (k, s) :: r, t => bif Nat.beq k t then s else lookL r t
def lookN : List (Nat × Nat) → Nat → Nat
  | [], _ => 0
  | (k, s) :: r, t => bif Nat.beq k t then s else lookN r t
def kk (n : Nat) : Nat := n
def gv (n : Nat) : Bool := nmem [70, 76, 84] n
def frs (n : Nat) : Bool := nmem [70, 71, 75, 76, 83, 84] n
def ftyOf : List (Nat × Nat) := [(70, 34), (71, 34), (75, 48), (76, 48), (83, 88), (84, 88)]
def lookF : List (Nat × FloatKind) → Nat → Option FloatKind
  | [], _ => none
  | (k, s) :: r, t => bif Nat.beq k t then some s else lookF r t
def fkTab : List (Nat × FloatKind) := [(166, .f64)]
theorem fk_ok : ∀ t k, lookF fkTab t = some k → Try.prog.underlying t = some (.float k) := by
  intro t k h
  unfold fkTab at h
  simp only [lookF] at h
  cases hb : Nat.beq 166 t with
  | true =>
    rw [hb] at h
    have ht := Nat.eq_of_beq_eq_true hb
    subst ht
    simp only [cond_true, Option.some.injEq] at h
    subst h
    exact Try.underlying166
  | false =>
  rw [hb] at h
  simp only [cond_false] at h
  cases h
def mtTab : List (Nat × (Nat × Bool)) := [(137, (139, false))]
def cx : Ctx := ⟨lookT tiTab, kk, fun _ _ => none, gv, frs, lookN ftyOf, 0, [], [], fun _ => [], lookF fkTab, lookM mtTab, fun _ => [], fun _ => default, fun _ => default, fun _ => default⟩
theorem mt_ok : MapTys Try.prog cx := mapTabB_ok (l := mtTab) (by kernel_rfl) (fun _ _ h => h)
def tiAt (t : Nat) : TI := match lookT tiTab t with | some I => I | none => ⟨false, 0, 0, [], [], [], [], 0, []⟩
theorem tv44 : cx.tv 44 = some (tiAt 44) := by kernel_rfl
theorem tv48 : cx.tv 48 = some (tiAt 48) := by kernel_rfl
theorem hand75 {g : Nat → List MV → Option MV} (h : SoundG Try.prog cx g) : SoundG Try.prog cx (addG 75 (cloneF 3 32) g) := h.add1 (fun _ => rfl) (fun ms r hr => by
  obtain ⟨xs, rfl, rfl, h1, h2⟩ := cloneF_some hr
  exact clone_ok (P := Try.prog) (c := cx) (f := 75) (fn := Try.f75) (t := 44) (I := tiAt 44) (E := tiAt 48) (i0 := 0) (i1 := 1) (i2 := 2) (i3 := 3) (oA := opAt Try.f75 noOp 0) (oB := opAt Try.f75 noOp 1) (oC := opAt Try.f75 noOp 2) (oD := opAt Try.f75 noOp 3) (oE := opAt Try.f75 noOp 4) (oF := opAt Try.f75 noOp 5) (oG := opAt Try.f75 noOp 6) (oH := opAt Try.f75 noOp 7) tab_ok tv44 (by kernel_rfl) tv48 (Nat.le_of_ble_eq_true (by kernel_rfl)) (by kernel_rfl) (by kernel_rfl) Try.func75 (by kernel_rfl) (by kernel_rfl) (by kernel_rfl) (by kernel_rfl)
    ⟨by kernel_rfl, by kernel_rfl, by kernel_rfl⟩ ⟨by kernel_rfl, by kernel_rfl, by kernel_rfl⟩ ⟨by kernel_rfl, by kernel_rfl, by kernel_rfl⟩ ⟨by kernel_rfl, by kernel_rfl, by kernel_rfl⟩ ⟨by kernel_rfl, by kernel_rfl, by kernel_rfl⟩ ⟨by kernel_rfl, by kernel_rfl, by kernel_rfl⟩ ⟨by kernel_rfl, by kernel_rfl, by kernel_rfl⟩ ⟨by kernel_rfl, by kernel_rfl, by kernel_rfl⟩ (by rw [show (tiAt 48).size = 3 by kernel_rfl]; exact h1) (by rw [show (tiAt 48).bytes = 32 by kernel_rfl]; exact h2))
theorem ins76 : InsFn Try.prog 76 44 3 4 48 103 Try.f76 (fun k => k) (opAt Try.f76 noOp) (insTail (opAt Try.f76 noOp)) := by
  refine ⟨Try.func76, by kernel_rfl, by kernel_rfl, by kernel_rfl, by kernel_rfl, ?_, mix_ok, by kernel_rfl⟩
  exact ⟨⟨by kernel_rfl, by kernel_rfl, by kernel_rfl⟩, ⟨by kernel_rfl, by kernel_rfl, by kernel_rfl⟩, ⟨by kernel_rfl, by kernel_rfl, by kernel_rfl⟩, ⟨by kernel_rfl, by kernel_rfl, by kernel_rfl⟩, ⟨by kernel_rfl, by kernel_rfl, by kernel_rfl⟩, ⟨by kernel_rfl, by kernel_rfl, by kernel_rfl⟩, ⟨by kernel_rfl, by kernel_rfl, by kernel_rfl⟩, ⟨by kernel_rfl, by kernel_rfl, by kernel_rfl⟩, ⟨by kernel_rfl, by kernel_rfl, by kernel_rfl⟩, ⟨by kernel_rfl, by kernel_rfl, by kernel_rfl⟩, ⟨by kernel_rfl, by kernel_rfl, by kernel_rfl⟩, ⟨by kernel_rfl, by kernel_rfl, by kernel_rfl⟩, ⟨by kernel_rfl, by kernel_rfl, by kernel_rfl⟩, ⟨by kernel_rfl, by kernel_rfl, by kernel_rfl⟩, ⟨by kernel_rfl, by kernel_rfl, by kernel_rfl⟩, ⟨by kernel_rfl, by kernel_rfl, by kernel_rfl⟩, ⟨by kernel_rfl, by kernel_rfl, by kernel_rfl⟩, ⟨by kernel_rfl, by kernel_rfl, by kernel_rfl⟩, ⟨by kernel_rfl, by kernel_rfl, by kernel_rfl⟩, ⟨by kernel_rfl, by kernel_rfl, by kernel_rfl⟩, ⟨by kernel_rfl, by kernel_rfl, by kernel_rfl⟩, ⟨by kernel_rfl, by kernel_rfl, by kernel_rfl⟩, ⟨by kernel_rfl, by kernel_rfl, by kernel_rfl⟩, ⟨by kernel_rfl, by kernel_rfl, by kernel_rfl⟩, ⟨by kernel_rfl, by kernel_rfl, by kernel_rfl⟩, ⟨by kernel_rfl, by kernel_rfl, by kernel_rfl⟩, ⟨by kernel_rfl, by kernel_rfl, by kernel_rfl⟩, ⟨by kernel_rfl, by kernel_rfl, by kernel_rfl⟩, ⟨by kernel_rfl, by kernel_rfl, by kernel_rfl⟩, ⟨by kernel_rfl, by kernel_rfl, by kernel_rfl⟩, ⟨by kernel_rfl, by kernel_rfl, by kernel_rfl⟩, ⟨by kernel_rfl, by kernel_rfl, by kernel_rfl⟩, ⟨by kernel_rfl, by kernel_rfl, by kernel_rfl⟩, ⟨by kernel_rfl, by kernel_rfl, by kernel_rfl⟩, ⟨by kernel_rfl, by kernel_rfl, by kernel_rfl⟩, ⟨by kernel_rfl, by kernel_rfl, by kernel_rfl⟩, ⟨by kernel_rfl, by kernel_rfl, by kernel_rfl⟩, ⟨by kernel_rfl, by kernel_rfl, by kernel_rfl⟩, ⟨by kernel_rfl, by kernel_rfl, by kernel_rfl⟩, ⟨by kernel_rfl, by kernel_rfl, by kernel_rfl⟩, ⟨by kernel_rfl, by kernel_rfl, by kernel_rfl⟩, ⟨by kernel_rfl, by kernel_rfl, by kernel_rfl⟩, ⟨by kernel_rfl, by kernel_rfl, by kernel_rfl⟩, ⟨by kernel_rfl, by kernel_rfl, by kernel_rfl⟩, ⟨by kernel_rfl, by kernel_rfl, by kernel_rfl⟩, ⟨by kernel_rfl, by kernel_rfl, by kernel_rfl⟩, ⟨by kernel_rfl, by kernel_rfl, by kernel_rfl⟩, ⟨by kernel_rfl, by kernel_rfl, by kernel_rfl⟩, ⟨by kernel_rfl, by kernel_rfl, by kernel_rfl⟩, ⟨by kernel_rfl, by kernel_rfl, by kernel_rfl⟩, ⟨by kernel_rfl, by kernel_rfl, by kernel_rfl⟩, ⟨by kernel_rfl, by kernel_rfl, by kernel_rfl⟩, ⟨by kernel_rfl, by kernel_rfl, by kernel_rfl⟩, ⟨by kernel_rfl, by kernel_rfl, by kernel_rfl⟩, ⟨by kernel_rfl, by kernel_rfl, by kernel_rfl⟩, ⟨by kernel_rfl, by kernel_rfl, by kernel_rfl⟩, ⟨by kernel_rfl, by kernel_rfl, by kernel_rfl⟩, ⟨by kernel_rfl, by kernel_rfl, by kernel_rfl⟩, ⟨by kernel_rfl, by kernel_rfl, by kernel_rfl⟩, ⟨by kernel_rfl, by kernel_rfl, by kernel_rfl⟩, ⟨by kernel_rfl, by kernel_rfl, by kernel_rfl⟩, ⟨by kernel_rfl, by kernel_rfl, by kernel_rfl⟩, ⟨by kernel_rfl, by kernel_rfl, by kernel_rfl⟩, ⟨by kernel_rfl, by kernel_rfl, by kernel_rfl⟩, ⟨by kernel_rfl, by kernel_rfl, by kernel_rfl⟩, ⟨by kernel_rfl, by kernel_rfl, by kernel_rfl⟩, ⟨by kernel_rfl, by kernel_rfl, by kernel_rfl⟩, ⟨by kernel_rfl, by kernel_rfl, by kernel_rfl⟩, ⟨by kernel_rfl, by kernel_rfl, by kernel_rfl⟩, ⟨by kernel_rfl, by kernel_rfl, by kernel_rfl⟩, ⟨by kernel_rfl, by kernel_rfl, by kernel_rfl⟩, ⟨by kernel_rfl, by kernel_rfl, by kernel_rfl⟩, ⟨by kernel_rfl, by kernel_rfl, by kernel_rfl⟩, ⟨by kernel_rfl, by kernel_rfl, by kernel_rfl⟩, ⟨by kernel_rfl, by kernel_rfl, by kernel_rfl⟩, ⟨by kernel_rfl, by kernel_rfl, by kernel_rfl⟩, ⟨by kernel_rfl, by kernel_rfl, by kernel_rfl⟩, ⟨by kernel_rfl, by kernel_rfl, by kernel_rfl⟩, ⟨by kernel_rfl, by kernel_rfl, by kernel_rfl⟩, ⟨by kernel_rfl, by kernel_rfl, by kernel_rfl⟩, ⟨by kernel_rfl, by kernel_rfl, by kernel_rfl⟩, ⟨by kernel_rfl, by kernel_rfl, by kernel_rfl⟩, ⟨by kernel_rfl, by kernel_rfl, by kernel_rfl⟩, by kernel_rfl, by kernel_rfl⟩
theorem ov76 : ∀ args w, (callFunc 103 args).run Try.prog w = ((Extern.SlicesOverlaps.overlaps #[44, 44] #[4] args).run Try.prog w).andThen fun v w' => .ok (.value v) w' := fun args w => run_callFunc_extern Try.func103 (by kernel_rfl) (by kernel_rfl) (by kernel_rfl) (e := Extern.SlicesOverlaps.overlaps #[44, 44] #[4]) (by kernel_rfl) args w
theorem hand76 {g : Nat → List MV → Option MV} (h : SoundG Try.prog cx g) : SoundG Try.prog cx (addG 76 (insertF 32) g) := h.add1 (fun _ => rfl) (fun ms r hr => by
  obtain ⟨xs, ys, i, rfl, rfl, h1, h2, h3⟩ := insertF_some hr
  exact insert_ok (P := Try.prog) (c := cx) (I := tiAt 44) (E := tiAt 48) ins76 tab_ok tv44 (by kernel_rfl) tv48 (Nat.le_of_ble_eq_true (by kernel_rfl)) (by kernel_rfl) (by kernel_rfl) (by kernel_rfl) (by kernel_rfl) ov76 h1 h2 (by rw [show (tiAt 48).bytes = 32 by kernel_rfl]; exact h3))
noncomputable def H75 : Nat → List MV → Option MV := addG 75 (cloneF 3 32) (fun _ _ => none)
theorem soundH75 : SoundG Try.prog cx H75 := hand75 (SoundG.none _ _)
noncomputable def H76 : Nat → List MV → Option MV := addG 76 (insertF 32) H75
theorem soundH76 : SoundG Try.prog cx H76 := hand76 soundH75

noncomputable def cxL18Few : Ctx := ⟨lookT tiTab, kk, H76, gv, frs, lookN ftyOf, 21, [], [], lookL [], lookF fkTab, lookM mtTab, lookL [], lookH [(4, ⟨[0, 3], [], [], [(0, [(20, .sc (.k .b))])], []⟩)], lookH [], lookH [(2, ⟨[0], [], [(3, .sc (.k (.i .i64)))], [(1, [(2, .sc (.k .b))]), (2, [])], []⟩)]⟩
noncomputable def dL18Few (lA : MV) : Option MV :=
 gL lA fun lA1 =>
 bd (Loop (fun msA =>
 gC msA fun m msA1 =>
 gI .i64 m fun i =>
 gN msA1 <|
 lenN lA1 fun len =>
 ifB (decide (i < (len : Int))) (
 bd (
 ifB (decide (i = 60)) (
 some [.b true]) (
 idx lA1 i fun y =>
 gA y fun cs =>
 gC cs fun m1 msA2 =>
 gI .i64 m1 fun By =>
 gC msA2 fun m2 msA3 =>
 gI .i64 m2 fun View =>
 gC msA3 fun m3 msA4 =>
 gS m3 fun Value =>
 gN msA4 <|
 some [.b (decide ((6100 : Int) < (Value.length : Int)))])) fun vs =>
 gC vs fun m4 msA5 =>
 gB m4 fun x =>
 gN msA5 <|
 ifB x (
 some (.inr (1, [.b false]))) (
 some (.inl [.i .i64 (IntKind.wrap .i64 (i + 1))]))) (
 some (.inr (2, [])))) [.i .i64 0]) fun p =>
 ifB (Nat.beq p.1 2) (
 gN p.2 <|
 some (.b true)) (
 chk (Nat.beq p.1 1) <|
 gC p.2 fun m5 msA6 =>
 gB m5 fun x1 =>
 gN msA6 <|
 some (.b x1))
theorem linkL18Few (lA : MV) : bodyK cxL18Few [] none Try.f22 [lA] = dL18Few lA := by kernel_rfl
noncomputable def gL18Few : Nat → List MV → Option MV := addG 22 (lst1 dL18Few) H76
theorem soundL18Few : SoundG Try.prog cx gL18Few :=
  soundH76.fn (c' := cxL18Few) (caps := []) ⟨rfl, rfl, rfl, rfl, rfl, rfl, rfl⟩ rfl tab_ok eq_ok fk_ok mt_ok mix_ok Try.func22 (by kernel_rfl) (fun _ => rfl) (lst1_of linkL18Few)

noncomputable def cxR18May : Ctx := ⟨lookT tiTab, kk, gL18Few, gv, frs, lookN ftyOf, 22, [], [], lookL [], lookF fkTab, lookM mtTab, lookL [], lookH [(1, ⟨[1], [], [], [(0, [(2, .sc (.k .b))])], []⟩)], lookH [], lookH []⟩
noncomputable def dR18May (a : MV) : Option MV :=
 gA a fun cs =>
 gC cs fun m msA =>
 gI .i64 m fun By =>
 gC msA fun m1 msA1 =>
 gI .i64 m1 fun View =>
 gC msA1 fun m2 msA2 =>
 gS m2 fun Value =>
 gN msA2 <|
 bd (
 ifB (decide ((0 : Int) ≤ By)) (
 ifB (decide ((0 : Int) ≤ View)) (
 ifB (decide (View ≤ 100000)) (
 some [.b (decide ((Value.length : Int) ≤ 6000))]) (
 some [.b false])) (
 some [.b false])) (
 some [.b false])) fun vs =>
 gC vs fun m3 msA3 =>
 gB m3 fun x =>
 gN msA3 <|
 some (.b x)
theorem linkR18May (a : MV) : bodyK cxR18May [] none Try.f35 [a] = dR18May a := by kernel_rfl
noncomputable def gR18May : Nat → List MV → Option MV := addG 35 (lst1 dR18May) gL18Few
theorem soundR18May : SoundG Try.prog cx gR18May :=
  soundL18Few.fn (c' := cxR18May) (caps := []) ⟨rfl, rfl, rfl, rfl, rfl, rfl, rfl⟩ rfl tab_ok eq_ok fk_ok mt_ok mix_ok Try.func35 (by kernel_rfl) (fun _ => rfl) (lst1_of linkR18May)

noncomputable def cxR18Right : Ctx := ⟨lookT tiTab, kk, gR18May, gv, frs, lookN ftyOf, 38, [], [], lookL [], lookF fkTab, lookM mtTab, lookL [(4, [0, 1, 2, 3, 4, 5, 6, 7, 8, 9, 10, 11, 12, 13, 14, 15, 16, 17, 18, 19, 20, 21, 22, 23, 24, 25, 26])], lookH [(4, ⟨[1, 3], [], [], [(0, [(37, .sc (.k .b))])], []⟩)], lookH [], lookH [(2, ⟨[1], [], [(3, .sc (.k (.i .i64)))], [(1, [(2, .sc (.k .b))]), (2, [])], []⟩)]⟩
noncomputable def dR18Right (t : MV) : Option MV :=
 gA t fun cs =>
 gC cs fun m msA =>
 gL m fun L =>
 gN msA <|
 bd (Loop (fun msA1 =>
 gC msA1 fun m1 msA2 =>
 gI .i64 m1 fun i =>
 gN msA2 <|
 lenN L fun len =>
 ifB (decide (i < (len : Int))) (
 bd (
 idx L i fun y =>
 gA y fun cs1 =>
 gC cs1 fun m2 msA3 =>
 gI .i64 m2 fun By =>
 gC msA3 fun m3 msA4 =>
 gI .i64 m3 fun View =>
 gC msA4 fun m4 msA5 =>
 gS m4 fun Value =>
 gN msA5 <|
 bd (dR18May (.agg [.i .i64 By, .i .i64 View, .s Value])) fun rA =>
 gB rA fun x =>
 ifB (!x) (
 some [.b true]) (
 ifB (decide ((0 : Int) < i)) (
 idx L (IntKind.wrap .i64 (i - 1)) fun y1 =>
 gA y1 fun cs2 =>
 gC cs2 fun m5 msA6 =>
 gI .i64 m5 fun By1 =>
 gC msA6 fun m6 msA7 =>
 gI .i64 m6 fun View1 =>
 gC msA7 fun m7 msA8 =>
 gS m7 fun Value1 =>
 gN msA8 <|
 idx L i fun y2 =>
 gA y2 fun cs3 =>
 gC cs3 fun m8 msA9 =>
 gI .i64 m8 fun By2 =>
 gC msA9 fun m9 msA10 =>
 gI .i64 m9 fun View2 =>
 gC msA10 fun m10 msA11 =>
 gS m10 fun Value2 =>
 gN msA11 <|
 some [.b (decide (By2 ≤ By1))]) (
 some [.b false]))) fun vs =>
 gC vs fun m11 msA12 =>
 gB m11 fun x1 =>
 gN msA12 <|
 ifB x1 (
 some (.inr (1, [.b false]))) (
 some (.inl [.i .i64 (IntKind.wrap .i64 (i + 1))]))) (
 some (.inr (2, [])))) [.i .i64 0]) fun p =>
 ifB (Nat.beq p.1 2) (
 gN p.2 <|
 some (.b true)) (
 chk (Nat.beq p.1 1) <|
 gC p.2 fun m12 msA13 =>
 gB m12 fun x2 =>
 gN msA13 <|
 some (.b x2))
theorem linkR18Right (t : MV) : bodyK cxR18Right [] none Try.f23 [t] = dR18Right t := by kernel_rfl
noncomputable def gR18Right : Nat → List MV → Option MV := addG 23 (lst1 dR18Right) gR18May
theorem soundR18Right : SoundG Try.prog cx gR18Right :=
  soundR18May.fn (c' := cxR18Right) (caps := []) ⟨rfl, rfl, rfl, rfl, rfl, rfl, rfl⟩ rfl tab_ok eq_ok fk_ok mt_ok mix_ok Try.func23 (by kernel_rfl) (fun _ => rfl) (lst1_of linkR18Right)

noncomputable def cxL18Plain : Ctx := ⟨lookT tiTab, kk, gR18Right, gv, frs, lookN ftyOf, 6, [], [], lookL [], lookF fkTab, lookM mtTab, lookL [], lookH [], lookH [], lookH []⟩
noncomputable def dL18Plain (t : MV) : Option MV :=
 gA t fun cs =>
 gC cs fun m msA =>
 gL m fun L =>
 gN msA <|
 some (.agg [.list L])
theorem linkL18Plain (t : MV) : bodyK cxL18Plain [] none Try.f24 [t] = dL18Plain t := by kernel_rfl
noncomputable def gL18Plain : Nat → List MV → Option MV := addG 24 (lst1 dL18Plain) gR18Right
theorem soundL18Plain : SoundG Try.prog cx gL18Plain :=
  soundR18Right.fn (c' := cxL18Plain) (caps := []) ⟨rfl, rfl, rfl, rfl, rfl, rfl, rfl⟩ rfl tab_ok eq_ok fk_ok mt_ok mix_ok Try.func24 (by kernel_rfl) (fun _ => rfl) (lst1_of linkL18Plain)

noncomputable def cxTallyMay : Ctx := ⟨lookT tiTab, kk, gL18Plain, gv, frs, lookN ftyOf, 22, [], [], lookL [], lookF fkTab, lookM mtTab, lookL [], lookH [(1, ⟨[1], [], [], [(0, [(2, .sc (.k .b))])], []⟩)], lookH [], lookH []⟩
noncomputable def dTallyMay (a : MV) : Option MV :=
 gA a fun cs =>
 gC cs fun m msA =>
 gI .i64 m fun By =>
 gC msA fun m1 msA1 =>
 gI .i64 m1 fun View =>
 gC msA1 fun m2 msA2 =>
 gS m2 fun Value =>
 gN msA2 <|
 bd (
 ifB (decide ((0 : Int) ≤ By)) (
 ifB (decide ((0 : Int) ≤ View)) (
 ifB (decide (View ≤ 100000)) (
 some [.b (decide ((Value.length : Int) ≤ 6000))]) (
 some [.b false])) (
 some [.b false])) (
 some [.b false])) fun vs =>
 gC vs fun m3 msA3 =>
 gB m3 fun x =>
 gN msA3 <|
 some (.b x)
theorem linkTallyMay (a : MV) : bodyK cxTallyMay [] none Try.f59 [a] = dTallyMay a := by kernel_rfl
noncomputable def gTallyMay : Nat → List MV → Option MV := addG 59 (lst1 dTallyMay) gL18Plain
theorem soundTallyMay : SoundG Try.prog cx gTallyMay :=
  soundL18Plain.fn (c' := cxTallyMay) (caps := []) ⟨rfl, rfl, rfl, rfl, rfl, rfl, rfl⟩ rfl tab_ok eq_ok fk_ok mt_ok mix_ok Try.func59 (by kernel_rfl) (fun _ => rfl) (lst1_of linkTallyMay)

noncomputable def cxCmpIsNaNInt : Ctx := ⟨lookT tiTab, kk, gTallyMay, gv, frs, lookN ftyOf, 6, [], [], lookL [], lookF fkTab, lookM mtTab, lookL [], lookH [], lookH [], lookH []⟩
noncomputable def dCmpIsNaNInt (x : MV) : Option MV :=
 gI .i64 x fun x1 =>
 some (.b (!decide (x1 = x1)))
theorem linkCmpIsNaNInt (x : MV) : bodyK cxCmpIsNaNInt [] none Try.f102 [x] = dCmpIsNaNInt x := by kernel_rfl
noncomputable def gCmpIsNaNInt : Nat → List MV → Option MV := addG 102 (lst1 dCmpIsNaNInt) gTallyMay
theorem soundCmpIsNaNInt : SoundG Try.prog cx gCmpIsNaNInt :=
  soundTallyMay.fn (c' := cxCmpIsNaNInt) (caps := []) ⟨rfl, rfl, rfl, rfl, rfl, rfl, rfl⟩ rfl tab_ok eq_ok fk_ok mt_ok mix_ok Try.func102 (by kernel_rfl) (fun _ => rfl) (lst1_of linkCmpIsNaNInt)

noncomputable def cxCmpCompareInt : Ctx := ⟨lookT tiTab, kk, gCmpIsNaNInt, gv, frs, lookN ftyOf, 20, [], [], lookL [], lookF fkTab, lookM mtTab, lookL [], lookH [], lookH [], lookH []⟩
noncomputable def dCmpCompareInt (x y : MV) : Option MV :=
 gI .i64 x fun x1 =>
 gI .i64 y fun y1 =>
 bd (dCmpIsNaNInt (.i .i64 x1)) fun rA =>
 gB rA fun x2 =>
 bd (dCmpIsNaNInt (.i .i64 y1)) fun rA1 =>
 gB rA1 fun x3 =>
 ifB x2 (
 ifB x3 (
 some (.i .i64 0)) (
 some (.i .i64 (-1)))) (
 ifB x3 (
 some (.i .i64 1)) (
 ifB (decide (x1 < y1)) (
 some (.i .i64 (-1))) (
 ifB (decide (y1 < x1)) (
 some (.i .i64 1)) (
 some (.i .i64 0)))))
theorem linkCmpCompareInt (x y : MV) : bodyK cxCmpCompareInt [] none Try.f74 [x, y] = dCmpCompareInt x y := by kernel_rfl
noncomputable def gCmpCompareInt : Nat → List MV → Option MV := addG 74 (lst2 dCmpCompareInt) gCmpIsNaNInt
theorem soundCmpCompareInt : SoundG Try.prog cx gCmpCompareInt :=
  soundCmpIsNaNInt.fn (c' := cxCmpCompareInt) (caps := []) ⟨rfl, rfl, rfl, rfl, rfl, rfl, rfl⟩ rfl tab_ok eq_ok fk_ok mt_ok mix_ok Try.func74 (by kernel_rfl) (fun _ => rfl) (lst2_of linkCmpCompareInt)

noncomputable def cxTallyAddF1 : Ctx := ⟨lookT tiTab, kk, gCmpCompareInt, gv, frs, lookN ftyOf, 9, [], [], lookL [], lookF fkTab, lookM mtTab, lookL [], lookH [], lookH [], lookH []⟩
noncomputable def dTallyAddF1 (x byA : MV) : Option MV :=
 gA x fun cs =>
 gC cs fun m msA =>
 gI .i64 m fun By =>
 gC msA fun m1 msA1 =>
 gI .i64 m1 fun View =>
 gC msA1 fun m2 msA2 =>
 gS m2 fun Value =>
 gN msA2 <|
 gI .i64 byA fun byA1 =>
 bd (dCmpCompareInt (.i .i64 By) (.i .i64 byA1)) fun rA =>
 gI .i64 rA fun x1 =>
 some (.i .i64 x1)
theorem linkTallyAddF1 (x byA : MV) : bodyK cxTallyAddF1 [] none Try.f73 [x, byA] = dTallyAddF1 x byA := by kernel_rfl
noncomputable def gTallyAddF1 : Nat → List MV → Option MV := addG 73 (lst2 dTallyAddF1) gCmpCompareInt
theorem soundTallyAddF1 : SoundG Try.prog cx gTallyAddF1 :=
  soundCmpCompareInt.fn (c' := cxTallyAddF1) (caps := []) ⟨rfl, rfl, rfl, rfl, rfl, rfl, rfl⟩ rfl tab_ok eq_ok fk_ok mt_ok mix_ok Try.func73 (by kernel_rfl) (fun _ => rfl) (lst2_of linkTallyAddF1)
noncomputable def preSlicesBinarySearchFuncApiAcceptInt : Nat → List MV → Option MV := gTallyAddF1
theorem atSlicesBinarySearchFuncApiAcceptIntTallyAddF1 (x0 x1 : MV) : preSlicesBinarySearchFuncApiAcceptInt 73 [x0, x1] = dTallyAddF1 x0 x1 := by kernel_rfl

noncomputable def cxSlicesBinarySearchFuncApiAcceptInt : Ctx := ⟨lookT tiTab, kk, gTallyAddF1, gv, frs, lookN ftyOf, 49, [], [], lookL [], lookF fkTab, lookM mtTab, lookL [], lookH [(8, ⟨[0, 1, 2, 8, 9], [], [], [(0, [(6, .sc (.k (.i .i64))), (7, .sc (.k .b))])], []⟩)], lookH [(6, ⟨[0, 1, 2, 8, 11], [], [], [(0, [(9, .sc (.k (.i .i64))), (10, .sc (.k (.i .i64)))])], []⟩)], lookH [(3, ⟨[0, 1, 2, 8], [], [(9, .sc (.k (.i .i64))), (10, .sc (.k (.i .i64)))], [(2, [(9, .sc (.k (.i .i64)))])], []⟩)]⟩
noncomputable def dSlicesBinarySearchFuncApiAcceptInt (x target cmp : MV) : Option MV :=
 gL x fun x1 =>
 gI .i64 target fun target1 =>
 gR cmp fun cmp1 =>
 lenN x1 fun len =>
 bd (Loop (fun msA =>
 gC msA fun m msA1 =>
 gI .i64 m fun i =>
 gC msA1 fun m1 msA2 =>
 gI .i64 m1 fun j =>
 gN msA2 <|
 ifB (decide (i < j)) (
 chk (decide ((0 : Int) ≤ 1)) <|
 idx x1 (IntKind.wrap .i64 (Int.fdiv (IntKind.wrap .u64 (IntKind.wrap .i64 (i + j))) (2 ^ min (Int.toNat 1) (IntKind.bits .u64)))) fun y =>
 gA y fun cs =>
 gC cs fun m2 msA3 =>
 gI .i64 m2 fun By =>
 gC msA3 fun m3 msA4 =>
 gI .i64 m3 fun View =>
 gC msA4 fun m4 msA5 =>
 gS m4 fun Value =>
 gN msA5 <|
 gFn cmp1 fun fn cap =>
 chk (!gv fn) <|
 bd (preSlicesBinarySearchFuncApiAcceptInt fn ([.agg [.i .i64 By, .i .i64 View, .s Value], .i .i64 target1] ++ cap)) fun rA =>
 gI .i64 rA fun x2 =>
 bd (
 ifB (decide (x2 < 0)) (
 some (0, [.i .i64 (IntKind.wrap .i64 ((IntKind.wrap .i64 (Int.fdiv (IntKind.wrap .u64 (IntKind.wrap .i64 (i + j))) (2 ^ min (Int.toNat 1) (IntKind.bits .u64)))) + 1)), .i .i64 j])) (
 some (0, [.i .i64 i, .i .i64 (IntKind.wrap .i64 (Int.fdiv (IntKind.wrap .u64 (IntKind.wrap .i64 (i + j))) (2 ^ min (Int.toNat 1) (IntKind.bits .u64))))]))) fun p1 =>
 chk (Nat.beq p1.1 0) <|
 gC p1.2 fun m5 msA6 =>
 gI .i64 m5 fun i1 =>
 gC msA6 fun m6 msA7 =>
 gI .i64 m6 fun j1 =>
 gN msA7 <|
 some (.inl [.i .i64 i1, .i .i64 j1])) (
 some (.inr (2, [.i .i64 i])))) [.i .i64 0, .i .i64 (len : Int)]) fun p =>
 chk (Nat.beq p.1 2) <|
 gC p.2 fun m7 msA8 =>
 gI .i64 m7 fun i2 =>
 gN msA8 <|
 bd (
 ifB (decide (i2 < (len : Int))) (
 idx x1 i2 fun y1 =>
 gA y1 fun cs1 =>
 gC cs1 fun m8 msA9 =>
 gI .i64 m8 fun By1 =>
 gC msA9 fun m9 msA10 =>
 gI .i64 m9 fun View1 =>
 gC msA10 fun m10 msA11 =>
 gS m10 fun Value1 =>
 gN msA11 <|
 gFn cmp1 fun fn1 cap1 =>
 chk (!gv fn1) <|
 bd (preSlicesBinarySearchFuncApiAcceptInt fn1 ([.agg [.i .i64 By1, .i .i64 View1, .s Value1], .i .i64 target1] ++ cap1)) fun rA1 =>
 gI .i64 rA1 fun x3 =>
 some [.i .i64 i2, .b (decide (x3 = 0))]) (
 some [.i .i64 i2, .b false])) fun vs =>
 gC vs fun m11 msA12 =>
 gI .i64 m11 fun x4 =>
 gC msA12 fun m12 msA13 =>
 gB m12 fun x5 =>
 gN msA13 <|
 some (.tup [.i .i64 x4, .b x5])
theorem linkSlicesBinarySearchFuncApiAcceptInt (x target cmp : MV) : bodyK cxSlicesBinarySearchFuncApiAcceptInt [] none Try.f72 [x, target, cmp] = dSlicesBinarySearchFuncApiAcceptInt x target cmp := by kernel_rfl
noncomputable def gSlicesBinarySearchFuncApiAcceptInt : Nat → List MV → Option MV := addG 72 (lst3 dSlicesBinarySearchFuncApiAcceptInt) gTallyAddF1
theorem soundSlicesBinarySearchFuncApiAcceptInt : SoundG Try.prog cx gSlicesBinarySearchFuncApiAcceptInt :=
  soundTallyAddF1.fn (c' := cxSlicesBinarySearchFuncApiAcceptInt) (caps := []) ⟨rfl, rfl, rfl, rfl, rfl, rfl, rfl⟩ rfl tab_ok eq_ok fk_ok mt_ok mix_ok Try.func72 (by kernel_rfl) (fun _ => rfl) (lst3_of linkSlicesBinarySearchFuncApiAcceptInt)

noncomputable def cxTallyAdd : Ctx := ⟨lookT tiTab, kk, gSlicesBinarySearchFuncApiAcceptInt, gv, frs, lookN ftyOf, 49, [], [], lookL [], lookF fkTab, lookM mtTab, lookL [(4, [0, 1, 2, 3, 4, 5, 6, 7, 8, 9, 10, 11])], lookH [(4, ⟨[2, 3, 4, 6, 7], [], [], [(0, [(32, .sc (.k .b))])], [45, 46]⟩)], lookH [(8, ⟨[3, 4, 6], [], [], [(0, [(8, .sc (.own 36 48 false))])], [45, 46]⟩)], lookH []⟩
noncomputable def dTallyAdd (t a : MV) : Option MV :=
 gA t fun cs =>
 gC cs fun m msA =>
 gL m fun L =>
 gN msA <|
 gA a fun cs1 =>
 gC cs1 fun m1 msA1 =>
 gI .i64 m1 fun By =>
 gC msA1 fun m2 msA2 =>
 gI .i64 m2 fun View =>
 gC msA2 fun m3 msA3 =>
 gS m3 fun Value =>
 gN msA3 <|
 bd (dTallyMay (.agg [.i .i64 By, .i .i64 View, .s Value])) fun rA =>
 gB rA fun x =>
 ifB (!x) (
 some (.tup [.agg [.list L], .b false])) (
 bd (dSlicesBinarySearchFuncApiAcceptInt (.list L) (.i .i64 By) (.func 73 [])) fun rA1 =>
 gT rA1 fun vs =>
 gC vs fun m4 msA4 =>
 gI .i64 m4 fun x1 =>
 gC msA4 fun m5 msA5 =>
 gB m5 fun x2 =>
 gN msA5 <|
 bd (
 ifB x2 (
 idx L x1 fun y =>
 gA y fun cs2 =>
 gC cs2 fun m6 msA6 =>
 gI .i64 m6 fun By1 =>
 gC msA6 fun m7 msA7 =>
 gI .i64 m7 fun View1 =>
 gC msA7 fun m8 msA8 =>
 gS m8 fun Value1 =>
 gN msA8 <|
 some [.b (decide (View ≤ View1))]) (
 some [.b false])) fun vs1 =>
 gC vs1 fun m9 msA9 =>
 gB m9 fun x3 =>
 gN msA9 <|
 ifB x3 (
 some (.tup [.agg [.list L], .b false])) (
 bd (cloneF 3 32 [.list L]) fun rA2 =>
 gF rA2 fun xs =>
 bd (
 ifB x2 (
 idx xs x1 fun y1 =>
 gA y1 fun cs3 =>
 gC cs3 fun m10 msA10 =>
 gI .i64 m10 fun By2 =>
 gC msA10 fun m11 msA11 =>
 gI .i64 m11 fun View2 =>
 gC msA11 fun m12 msA12 =>
 gS m12 fun Value2 =>
 gN msA12 <|
 some (0, [.list (xs.set (Int.toNat x1) (.agg [.i .i64 By, .i .i64 View, .s Value]))])) (
 bd (insertF 32 [.fresh xs, .i .i64 x1, .fresh ([.agg [.i .i64 By, .i .i64 View, .s Value]] : List MV)]) fun rA3 =>
 gF rA3 fun xs1 =>
 some (0, [.list xs1]))) fun p =>
 chk (Nat.beq p.1 0) <|
 gC p.2 fun m13 msA13 =>
 gL m13 fun lA =>
 gN msA13 <|
 some (.tup [.agg [.list lA], .b true])))
theorem linkTallyAdd (t a : MV) : bodyK cxTallyAdd [] none Try.f26 [t, a] = dTallyAdd t a := by kernel_rfl
noncomputable def gTallyAdd : Nat → List MV → Option MV := addG 26 (lst2 dTallyAdd) gSlicesBinarySearchFuncApiAcceptInt
theorem soundTallyAdd : SoundG Try.prog cx gTallyAdd :=
  soundSlicesBinarySearchFuncApiAcceptInt.fn (c' := cxTallyAdd) (caps := []) ⟨rfl, rfl, rfl, rfl, rfl, rfl, rfl⟩ rfl tab_ok eq_ok fk_ok mt_ok mix_ok Try.func26 (by kernel_rfl) (fun _ => rfl) (lst2_of linkTallyAdd)

noncomputable def cxTallyBest : Ctx := ⟨lookT tiTab, kk, gTallyAdd, gv, frs, lookN ftyOf, 71, [], [], lookL [], lookF fkTab, lookM mtTab, lookL [(5, [0, 1, 2, 3, 4, 5, 6, 7, 8, 9, 10]), (17, [0, 1, 2, 3, 4, 5, 6])], lookH [(12, ⟨[1, 7, 10, 11, 14, 36, 37, 38], [], [], [(0, [(62, .sc (.k .b))])], []⟩)], lookH [(13, ⟨[1, 7, 14, 36, 37, 38], [], [], [(0, [(10, .box [.k (.i .i64), .k .s]), (11, .sc (.k .b))])], []⟩)], lookH [(9, ⟨[1, 7, 36, 37], [], [(10, .box [.k (.i .i64), .k .s]), (11, .sc (.k .b)), (38, .sc (.k (.i .i64)))], [(4, [(10, .box [.k (.i .i64), .k .s]), (11, .sc (.k .b))])], []⟩), (3, ⟨[1, 2, 17, 18], [], [(7, .mp ⟨true, [.i .i64, .s], false⟩), (19, .sc (.k (.i .i64)))], [(2, [(7, .mp ⟨true, [.i .i64, .s], false⟩)])], []⟩)]⟩
noncomputable def dTallyBest (a a1 : MV) : Option MV :=
 gA a fun cs =>
 gC cs fun m msA =>
 gL m fun L =>
 gN msA <|
 gI .i64 a1 fun a1N1 =>
 lenN L fun len =>
 bd (Loop (fun msA1 =>
 gC msA1 fun m1 msA2 =>
 gL m1 fun es =>
 gC msA2 fun m2 msA3 =>
 gI .i64 m2 fun x =>
 gN msA3 <|
 ifB (decide (x < (len : Int))) (
 idx L x fun y =>
 gA y fun cs1 =>
 gC cs1 fun m3 msA4 =>
 gI .i64 m3 fun By =>
 gC msA4 fun m4 msA5 =>
 gI .i64 m4 fun View =>
 gC msA5 fun m5 msA6 =>
 gS m5 fun Value =>
 gN msA6 <|
 chk (decide ((0 : Int) ≤ (midx es ([.i .i64 View, .s Value] : List MV) : Int) ∧ Int.toNat (midx es ([.i .i64 View, .s Value] : List MV) : Int) < (ment es ([.i .i64 View, .s Value] : List MV) (.i .i64 0)).length)) <|
 some (.inl [.list (mset (ment es ([.i .i64 View, .s Value] : List MV) (.i .i64 0)) (Int.toNat (midx es ([.i .i64 View, .s Value] : List MV) : Int)) (.i .i64 (IntKind.wrap .i64 ((mgetI es ([.i .i64 View, .s Value] : List MV)) + 1)))), .i .i64 (IntKind.wrap .i64 (x + 1))])) (
 some (.inr (2, [.list es])))) [.list ([] : List MV), .i .i64 0]) fun p =>
 chk (Nat.beq p.1 2) <|
 gC p.2 fun m6 msA7 =>
 gL m6 fun es1 =>
 gN msA7 <|
 lenN L fun len1 =>
 bd (Loop (fun msA8 =>
 gC msA8 fun m7 msA9 =>
 gI .i64 m7 fun x1 =>
 gC msA9 fun m8 msA10 =>
 gS m8 fun x2 =>
 gC msA10 fun m9 msA11 =>
 gB m9 fun x3 =>
 gC msA11 fun m10 msA12 =>
 gI .i64 m10 fun x4 =>
 gN msA12 <|
 ifB (decide (x4 < (len1 : Int))) (
 idx L x4 fun y1 =>
 gA y1 fun cs2 =>
 gC cs2 fun m11 msA13 =>
 gI .i64 m11 fun By1 =>
 gC msA13 fun m12 msA14 =>
 gI .i64 m12 fun View1 =>
 gC msA14 fun m13 msA15 =>
 gS m13 fun Value1 =>
 gN msA15 <|
 bd (
 ifB (decide ((1 : Int) ≤ a1N1)) (
 ifB (decide (a1N1 ≤ (mgetI es1 ([.i .i64 View1, .s Value1] : List MV)))) (
 some [.b (decide (x1 < View1))]) (
 some [.b false])) (
 some [.b false])) fun vs =>
 gC vs fun m14 msA16 =>
 gB m14 fun x5 =>
 gN msA16 <|
 bd (
 ifB x5 (
 some (0, [.i .i64 View1, .s Value1, .b true])) (
 some (0, [.i .i64 x1, .s x2, .b x3]))) fun p2 =>
 chk (Nat.beq p2.1 0) <|
 gC p2.2 fun m15 msA17 =>
 gI .i64 m15 fun x6 =>
 gC msA17 fun m16 msA18 =>
 gS m16 fun x7 =>
 gC msA18 fun m17 msA19 =>
 gB m17 fun x8 =>
 gN msA19 <|
 some (.inl [.i .i64 x6, .s x7, .b x8, .i .i64 (IntKind.wrap .i64 (x4 + 1))])) (
 some (.inr (4, [.i .i64 x1, .s x2, .b x3])))) [.i .i64 (-1), .s ([] : List UInt8), .b false, .i .i64 0]) fun p1 =>
 chk (Nat.beq p1.1 4) <|
 gC p1.2 fun m18 msA20 =>
 gI .i64 m18 fun x9 =>
 gC msA20 fun m19 msA21 =>
 gS m19 fun x10 =>
 gC msA21 fun m20 msA22 =>
 gB m20 fun x11 =>
 gN msA22 <|
 ifB (!x11) (
 some (.tup [.i .i64 0, .s ([] : List UInt8), .b false])) (
 some (.tup [.i .i64 x9, .s x10, .b true]))
theorem linkTallyBest (a a1 : MV) : bodyK cxTallyBest [] none Try.f28 [a, a1] = dTallyBest a a1 := by kernel_rfl
noncomputable def gTallyBest : Nat → List MV → Option MV := addG 28 (lst2 dTallyBest) gTallyAdd
theorem soundTallyBest : SoundG Try.prog cx gTallyBest :=
  soundTallyAdd.fn (c' := cxTallyBest) (caps := []) ⟨rfl, rfl, rfl, rfl, rfl, rfl, rfl⟩ rfl tab_ok eq_ok fk_ok mt_ok mix_ok Try.func28 (by kernel_rfl) (fun _ => rfl) (lst2_of linkTallyBest)

noncomputable def cxTallyVoters : Ctx := ⟨lookT tiTab, kk, gTallyBest, gv, frs, lookN ftyOf, 33, [29], [], lookL [], lookF fkTab, lookM mtTab, lookL [], lookH [(5, ⟨[1, 2, 7, 9, 11, 12, 13], [30], [], [(0, [(26, .sc (.k .b))])], [29, 30]⟩)], lookH [(6, ⟨[1, 2, 9, 11, 12, 13], [], [], [(0, [(7, .sc (.own 30 48 true))])], [29, 30]⟩)], lookH [(3, ⟨[1, 2, 11, 12], [], [(7, .sc (.own 30 48 true)), (13, .sc (.k (.i .i64)))], [(2, [(7, .sc (.own 30 48 true))])], [29, 30]⟩)]⟩
noncomputable def dTallyVoters (t view value : MV) : Option MV :=
 gA t fun cs =>
 gC cs fun m msA =>
 gL m fun L =>
 gN msA <|
 gI .i64 view fun view1 =>
 gS value fun value1 =>
 lenN L fun len =>
 bd (Loop (fun msA1 =>
 gC msA1 fun m1 msA2 =>
 gL m1 fun out =>
 gC msA2 fun m2 msA3 =>
 gI .i64 m2 fun x =>
 gN msA3 <|
 ifB (decide (x < (len : Int))) (
 idx L x fun y =>
 gA y fun cs1 =>
 gC cs1 fun m3 msA4 =>
 gI .i64 m3 fun By =>
 gC msA4 fun m4 msA5 =>
 gI .i64 m4 fun View =>
 gC msA5 fun m5 msA6 =>
 gS m5 fun Value =>
 gN msA6 <|
 bd (
 ifB (decide (View = view1)) (
 some [.b (decide (Value = value1))]) (
 some [.b false])) fun vs =>
 gC vs fun m6 msA7 =>
 gB m6 fun x1 =>
 gN msA7 <|
 bd (
 ifB x1 (
 lenN out fun len1 =>
 lenN ([.agg [.i .i64 By, .i .i64 View, .s Value]] : List MV) fun len2 =>
 chk (decide ((len1 + len2) * 32 ≤ 2 ^ 46)) <|
 some (0, [.list (out ++ ([.agg [.i .i64 By, .i .i64 View, .s Value]] : List MV))])) (
 some (0, [.list out]))) fun p1 =>
 chk (Nat.beq p1.1 0) <|
 gC p1.2 fun m7 msA8 =>
 gL m7 fun out1 =>
 gN msA8 <|
 some (.inl [.list out1, .i .i64 (IntKind.wrap .i64 (x + 1))])) (
 some (.inr (2, [.list out])))) [.list ([] : List MV), .i .i64 0]) fun p =>
 chk (Nat.beq p.1 2) <|
 gC p.2 fun m8 msA9 =>
 gL m8 fun out2 =>
 gN msA9 <|
 some (.list out2)
theorem linkTallyVoters (t view value : MV) : bodyK cxTallyVoters [] none Try.f33 [t, view, value] = dTallyVoters t view value := by kernel_rfl
noncomputable def gTallyVoters : Nat → List MV → Option MV := addG 33 (lst3 dTallyVoters) gTallyBest
theorem soundTallyVoters : SoundG Try.prog cx gTallyVoters :=
  soundTallyBest.fn (c' := cxTallyVoters) (caps := []) ⟨rfl, rfl, rfl, rfl, rfl, rfl, rfl⟩ rfl tab_ok eq_ok fk_ok mt_ok mix_ok Try.func33 (by kernel_rfl) (fun _ => rfl) (lst3_of linkTallyVoters)

noncomputable def cxTallyCount : Ctx := ⟨lookT tiTab, kk, gTallyVoters, gv, frs, lookN ftyOf, 12, [], [], lookL [], lookF fkTab, lookM mtTab, lookL [], lookH [], lookH [], lookH []⟩
noncomputable def dTallyCount (t view value : MV) : Option MV :=
 gA t fun cs =>
 gC cs fun m msA =>
 gL m fun L =>
 gN msA <|
 gI .i64 view fun view1 =>
 gS value fun value1 =>
 bd (dTallyVoters (.agg [.list L]) (.i .i64 view1) (.s value1)) fun rA =>
 gL rA fun x =>
 lenN x fun len =>
 some (.i .i64 (len : Int))
theorem linkTallyCount (t view value : MV) : bodyK cxTallyCount [] none Try.f31 [t, view, value] = dTallyCount t view value := by kernel_rfl
noncomputable def gTallyCount : Nat → List MV → Option MV := addG 31 (lst3 dTallyCount) gTallyVoters
theorem soundTallyCount : SoundG Try.prog cx gTallyCount :=
  soundTallyVoters.fn (c' := cxTallyCount) (caps := []) ⟨rfl, rfl, rfl, rfl, rfl, rfl, rfl⟩ rfl tab_ok eq_ok fk_ok mt_ok mix_ok Try.func31 (by kernel_rfl) (fun _ => rfl) (lst3_of linkTallyCount)

noncomputable def cxL18Alive : Ctx := ⟨lookT tiTab, kk, gTallyCount, gv, frs, lookN ftyOf, 47, [], [], lookL [], lookF fkTab, lookM mtTab, lookL [], lookH [(4, ⟨[1, 2, 4, 5, 6, 7], [], [], [(0, [(0, .sc (.k .b))])], []⟩)], lookH [], lookH []⟩
noncomputable def dL18Alive : Option MV :=
 bd (dTallyAdd (.agg [.list ([] : List MV)]) (.agg [.i .i64 2, .i .i64 1, .s ([97] : List UInt8)])) fun rA =>
 gT rA fun vs =>
 gC vs fun m msA =>
 gA m fun cs =>
 gC cs fun m1 msA1 =>
 gL m1 fun L =>
 gN msA1 <|
 gC msA fun m2 msA2 =>
 gB m2 fun x =>
 gN msA2 <|
 bd (dTallyAdd (.agg [.list L]) (.agg [.i .i64 2, .i .i64 1, .s ([98] : List UInt8)])) fun rA1 =>
 gT rA1 fun vs1 =>
 gC vs1 fun m3 msA3 =>
 gA m3 fun cs1 =>
 gC cs1 fun m4 msA4 =>
 gL m4 fun L1 =>
 gN msA4 <|
 gC msA3 fun m5 msA5 =>
 gB m5 fun x1 =>
 gN msA5 <|
 bd (dTallyBest (.agg [.list L1]) (.i .i64 1)) fun rA2 =>
 gT rA2 fun vs2 =>
 gC vs2 fun m6 msA6 =>
 gI .i64 m6 fun x2 =>
 gC msA6 fun m7 msA7 =>
 gS m7 fun x3 =>
 gC msA7 fun m8 msA8 =>
 gB m8 fun x4 =>
 gN msA8 <|
 bd (
 ifB x (
 ifB (!x1) (
 ifB x4 (
 ifB (decide (x2 = 1)) (
 ifB (decide (x3 = ([97] : List UInt8))) (
 bd (dTallyCount (.agg [.list L]) (.i .i64 1) (.s ([97] : List UInt8))) fun rA3 =>
 gI .i64 rA3 fun x5 =>
 some [.b (decide (x5 = 1))]) (
 some [.b false])) (
 some [.b false])) (
 some [.b false])) (
 some [.b false])) (
 some [.b false])) fun vs3 =>
 gC vs3 fun m9 msA9 =>
 gB m9 fun x6 =>
 gN msA9 <|
 some (.b x6)
theorem linkL18Alive : bodyK cxL18Alive [] none Try.f25 [] = dL18Alive  := by kernel_rfl
noncomputable def gL18Alive : Nat → List MV → Option MV := addG 25 (lst0 dL18Alive) gTallyCount
theorem soundL18Alive : SoundG Try.prog cx gL18Alive :=
  soundTallyCount.fn (c' := cxL18Alive) (caps := []) ⟨rfl, rfl, rfl, rfl, rfl, rfl, rfl⟩ rfl tab_ok eq_ok fk_ok mt_ok mix_ok Try.func25 (by kernel_rfl) (fun _ => rfl) (lst0_of linkL18Alive)

noncomputable def cxR18Add : Ctx := ⟨lookT tiTab, kk, gL18Alive, gv, frs, lookN ftyOf, 70, [51, 60, 66], [], lookL [], lookF fkTab, lookM mtTab, lookL [], lookH [(11, ⟨[2, 3, 4, 6, 7, 8, 9], [14], [], [(0, [(48, .sc (.k .b))])], [14, 51, 60, 66]⟩), (9, ⟨[2, 3, 4, 6, 7, 8, 9], [14], [], [(0, [(38, .sc (.k .b))])], [14, 51, 60, 66]⟩)], lookH [(17, ⟨[3, 4], [], [], [(0, [(6, .sc (.own 14 48 true))])], [14, 51, 60, 66]⟩), (15, ⟨[2, 3, 4, 7, 8, 9], [], [], [(0, [(6, .sc (.own 14 48 true))])], [14, 51, 60, 66]⟩), (12, ⟨[2, 3, 4, 8, 9], [], [], [(0, [(6, .sc (.own 14 48 true)), (7, .sc (.k .b))])], [14, 51, 60, 66]⟩)], lookH [(6, ⟨[2, 3], [], [(4, .box [.k .l]), (6, .sc (.own 14 48 true)), (7, .sc (.k .b)), (8, .sc (.k (.i .i64)))], [(1, [(4, .box [.k .l]), (5, .sc (.k .b))]), (2, [(4, .box [.k .l]), (6, .sc (.own 14 48 true)), (7, .sc (.k .b))])], [14, 51, 60, 66]⟩)]⟩
noncomputable def dR18Add (a a1 : MV) : Option MV :=
 gA a fun cs =>
 gC cs fun m msA =>
 gL m fun L =>
 gN msA <|
 gA a1 fun cs1 =>
 gC cs1 fun m1 msA1 =>
 gI .i64 m1 fun By =>
 gC msA1 fun m2 msA2 =>
 gI .i64 m2 fun View =>
 gC msA2 fun m3 msA3 =>
 gS m3 fun Value =>
 gN msA3 <|
 bd (dR18May (.agg [.i .i64 By, .i .i64 View, .s Value])) fun rA =>
 gB rA fun x =>
 ifB (!x) (
 some (.tup [.agg [.list L], .b false])) (
 bd (Loop (fun msA4 =>
 gC msA4 fun m4 msA5 =>
 gL m4 fun x1 =>
 gC msA5 fun m5 msA6 =>
 gL m5 fun xs =>
 gC msA6 fun m6 msA7 =>
 gB m6 fun x2 =>
 gC msA7 fun m7 msA8 =>
 gI .i64 m7 fun x3 =>
 gN msA8 <|
 lenN L fun len =>
 ifB (decide (x3 < (len : Int))) (
 idx L x3 fun y =>
 gA y fun cs2 =>
 gC cs2 fun m8 msA9 =>
 gI .i64 m8 fun By1 =>
 gC msA9 fun m9 msA10 =>
 gI .i64 m9 fun View1 =>
 gC msA10 fun m10 msA11 =>
 gS m10 fun Value1 =>
 gN msA11 <|
 bd (
 ifB (decide (By1 = By)) (
 some [.b (decide (View ≤ View1))]) (
 some [.b false])) fun vs =>
 gC vs fun m11 msA12 =>
 gB m11 fun x4 =>
 gN msA12 <|
 ifB x4 (
 some (.inr (1, [.list L, .b false]))) (
 bd (
 ifB (!x2) (
 some [.b (decide (By ≤ By1))]) (
 some [.b false])) fun vs1 =>
 gC vs1 fun m12 msA13 =>
 gB m12 fun x5 =>
 gN msA13 <|
 bd (
 ifB x5 (
 lenN xs fun len1 =>
 lenN ([.agg [.i .i64 By, .i .i64 View, .s Value]] : List MV) fun len2 =>
 chk (decide ((len1 + len2) * 32 ≤ 2 ^ 46)) <|
 some (0, [.list (xs ++ ([.agg [.i .i64 By, .i .i64 View, .s Value]] : List MV)), .b true])) (
 some (0, [.list xs, .b x2]))) fun p1 =>
 chk (Nat.beq p1.1 0) <|
 gC p1.2 fun m13 msA14 =>
 gL m13 fun xs1 =>
 gC msA14 fun m14 msA15 =>
 gB m14 fun x6 =>
 gN msA15 <|
 bd (
 ifB (!decide (By1 = By)) (
 lenN xs1 fun len3 =>
 lenN ([.agg [.i .i64 By1, .i .i64 View1, .s Value1]] : List MV) fun len4 =>
 chk (decide ((len3 + len4) * 32 ≤ 2 ^ 46)) <|
 some (0, [.list (xs1 ++ ([.agg [.i .i64 By1, .i .i64 View1, .s Value1]] : List MV))])) (
 some (0, [.list xs1]))) fun p2 =>
 chk (Nat.beq p2.1 0) <|
 gC p2.2 fun m15 msA16 =>
 gL m15 fun xs2 =>
 gN msA16 <|
 some (.inl [.list x1, .list xs2, .b x6, .i .i64 (IntKind.wrap .i64 (x3 + 1))]))) (
 some (.inr (2, [.list x1, .list xs, .b x2])))) [.list ([] : List MV), .list ([] : List MV), .b false, .i .i64 0]) fun p =>
 ifB (Nat.beq p.1 2) (
 gC p.2 fun m16 msA17 =>
 gL m16 fun x7 =>
 gC msA17 fun m17 msA18 =>
 gL m17 fun xs3 =>
 gC msA18 fun m18 msA19 =>
 gB m18 fun x8 =>
 gN msA19 <|
 bd (
 ifB (!x8) (
 lenN xs3 fun len5 =>
 lenN ([.agg [.i .i64 By, .i .i64 View, .s Value]] : List MV) fun len6 =>
 chk (decide ((len5 + len6) * 32 ≤ 2 ^ 46)) <|
 some (0, [.list (xs3 ++ ([.agg [.i .i64 By, .i .i64 View, .s Value]] : List MV))])) (
 some (0, [.list xs3]))) fun p5 =>
 chk (Nat.beq p5.1 0) <|
 gC p5.2 fun m19 msA20 =>
 gL m19 fun xs4 =>
 gN msA20 <|
 some (.tup [.agg [.list xs4], .b true])) (
 chk (Nat.beq p.1 1) <|
 gC p.2 fun m20 msA21 =>
 gL m20 fun x9 =>
 gC msA21 fun m21 msA22 =>
 gB m21 fun x10 =>
 gN msA22 <|
 some (.tup [.agg [.list x9], .b x10])))
theorem linkR18Add (a a1 : MV) : bodyK cxR18Add [] none Try.f27 [a, a1] = dR18Add a a1 := by kernel_rfl
noncomputable def gR18Add : Nat → List MV → Option MV := addG 27 (lst2 dR18Add) gL18Alive
theorem soundR18Add : SoundG Try.prog cx gR18Add :=
  soundL18Alive.fn (c' := cxR18Add) (caps := []) ⟨rfl, rfl, rfl, rfl, rfl, rfl, rfl⟩ rfl tab_ok eq_ok fk_ok mt_ok mix_ok Try.func27 (by kernel_rfl) (fun _ => rfl) (lst2_of linkR18Add)

noncomputable def cxR18Voters : Ctx := ⟨lookT tiTab, kk, gR18Add, gv, frs, lookN ftyOf, 44, [41], [], lookL [], lookF fkTab, lookM mtTab, lookL [], lookH [(5, ⟨[1, 2, 3, 7, 8], [9], [], [(0, [(34, .sc (.k .b))])], [9, 41]⟩)], lookH [(6, ⟨[1, 2, 3, 8], [], [], [(0, [(7, .sc (.own 9 48 true))])], [9, 41]⟩)], lookH [(3, ⟨[1, 2, 3], [], [(7, .sc (.own 9 48 true)), (8, .sc (.k (.i .i64)))], [(2, [(7, .sc (.own 9 48 true))])], [9, 41]⟩)]⟩
noncomputable def dR18Voters (t view value : MV) : Option MV :=
 gA t fun cs =>
 gC cs fun m msA =>
 gL m fun L =>
 gN msA <|
 gI .i64 view fun view1 =>
 gS value fun value1 =>
 bd (Loop (fun msA1 =>
 gC msA1 fun m1 msA2 =>
 gL m1 fun out =>
 gC msA2 fun m2 msA3 =>
 gI .i64 m2 fun i =>
 gN msA3 <|
 lenN L fun len =>
 ifB (decide (i < (len : Int))) (
 bd (
 idx L i fun y =>
 gA y fun cs1 =>
 gC cs1 fun m3 msA4 =>
 gI .i64 m3 fun By =>
 gC msA4 fun m4 msA5 =>
 gI .i64 m4 fun View =>
 gC msA5 fun m5 msA6 =>
 gS m5 fun Value =>
 gN msA6 <|
 ifB (decide (View = view1)) (
 idx L i fun y1 =>
 gA y1 fun cs2 =>
 gC cs2 fun m6 msA7 =>
 gI .i64 m6 fun By1 =>
 gC msA7 fun m7 msA8 =>
 gI .i64 m7 fun View1 =>
 gC msA8 fun m8 msA9 =>
 gS m8 fun Value1 =>
 gN msA9 <|
 some [.b (decide (Value1 = value1))]) (
 some [.b false])) fun vs =>
 gC vs fun m9 msA10 =>
 gB m9 fun x =>
 gN msA10 <|
 bd (
 ifB x (
 idx L i fun y2 =>
 gA y2 fun cs3 =>
 gC cs3 fun m10 msA11 =>
 gI .i64 m10 fun By2 =>
 gC msA11 fun m11 msA12 =>
 gI .i64 m11 fun View2 =>
 gC msA12 fun m12 msA13 =>
 gS m12 fun Value2 =>
 gN msA13 <|
 lenN out fun len1 =>
 lenN ([.agg [.i .i64 By2, .i .i64 View2, .s Value2]] : List MV) fun len2 =>
 chk (decide ((len1 + len2) * 32 ≤ 2 ^ 46)) <|
 some (0, [.list (out ++ ([.agg [.i .i64 By2, .i .i64 View2, .s Value2]] : List MV))])) (
 some (0, [.list out]))) fun p1 =>
 chk (Nat.beq p1.1 0) <|
 gC p1.2 fun m13 msA14 =>
 gL m13 fun out1 =>
 gN msA14 <|
 some (.inl [.list out1, .i .i64 (IntKind.wrap .i64 (i + 1))])) (
 some (.inr (2, [.list out])))) [.list ([] : List MV), .i .i64 0]) fun p =>
 chk (Nat.beq p.1 2) <|
 gC p.2 fun m14 msA15 =>
 gL m14 fun out2 =>
 gN msA15 <|
 some (.list out2)
theorem linkR18Voters (t view value : MV) : bodyK cxR18Voters [] none Try.f34 [t, view, value] = dR18Voters t view value := by kernel_rfl
noncomputable def gR18Voters : Nat → List MV → Option MV := addG 34 (lst3 dR18Voters) gR18Add
theorem soundR18Voters : SoundG Try.prog cx gR18Voters :=
  soundR18Add.fn (c' := cxR18Voters) (caps := []) ⟨rfl, rfl, rfl, rfl, rfl, rfl, rfl⟩ rfl tab_ok eq_ok fk_ok mt_ok mix_ok Try.func34 (by kernel_rfl) (fun _ => rfl) (lst3_of linkR18Voters)

noncomputable def cxR18Count : Ctx := ⟨lookT tiTab, kk, gR18Voters, gv, frs, lookN ftyOf, 12, [], [], lookL [], lookF fkTab, lookM mtTab, lookL [], lookH [], lookH [], lookH []⟩
noncomputable def dR18Count (t view value : MV) : Option MV :=
 gA t fun cs =>
 gC cs fun m msA =>
 gL m fun L =>
 gN msA <|
 gI .i64 view fun view1 =>
 gS value fun value1 =>
 bd (dR18Voters (.agg [.list L]) (.i .i64 view1) (.s value1)) fun rA =>
 gL rA fun x =>
 lenN x fun len =>
 some (.i .i64 (len : Int))
theorem linkR18Count (t view value : MV) : bodyK cxR18Count [] none Try.f32 [t, view, value] = dR18Count t view value := by kernel_rfl
noncomputable def gR18Count : Nat → List MV → Option MV := addG 32 (lst3 dR18Count) gR18Voters
theorem soundR18Count : SoundG Try.prog cx gR18Count :=
  soundR18Voters.fn (c' := cxR18Count) (caps := []) ⟨rfl, rfl, rfl, rfl, rfl, rfl, rfl⟩ rfl tab_ok eq_ok fk_ok mt_ok mix_ok Try.func32 (by kernel_rfl) (fun _ => rfl) (lst3_of linkR18Count)

noncomputable def cxR18Best : Ctx := ⟨lookT tiTab, kk, gR18Count, gv, frs, lookN ftyOf, 64, [], [], lookL [], lookF fkTab, lookM mtTab, lookL [(6, [0, 1, 2, 3, 4, 6, 5, 7, 8, 9, 10, 11, 12, 13, 14, 15, 16, 17, 18, 19, 20, 21, 22]), (10, [0, 1, 2, 3, 4, 5, 6, 7, 8, 9, 10, 11, 12, 13, 14])], lookH [(6, ⟨[1, 2, 7, 8, 9], [], [], [(0, [(48, .sc (.k .b))])], []⟩), (3, ⟨[1, 2, 7, 8], [], [], [(0, [(18, .sc (.k .b))])], []⟩)], lookH [(7, ⟨[1, 2, 8], [], [], [(0, [(7, .sc (.k (.i .i64)))])], []⟩)], lookH [(3, ⟨[1, 2], [], [(7, .sc (.k (.i .i64))), (8, .sc (.k (.i .i64)))], [(2, [(7, .sc (.k (.i .i64)))])], []⟩)]⟩
noncomputable def dR18Best (t need : MV) : Option MV :=
 gA t fun cs =>
 gC cs fun m msA =>
 gL m fun L =>
 gN msA <|
 gI .i64 need fun need1 =>
 bd (Loop (fun msA1 =>
 gC msA1 fun m1 msA2 =>
 gI .i64 m1 fun best =>
 gC msA2 fun m2 msA3 =>
 gI .i64 m2 fun i =>
 gN msA3 <|
 bd (
 lenN L fun len =>
 ifB (decide (i < (len : Int))) (
 some [.b (decide ((1 : Int) ≤ need1))]) (
 some [.b false])) fun vs =>
 gC vs fun m3 msA4 =>
 gB m3 fun x =>
 gN msA4 <|
 ifB x (
 idx L i fun y =>
 gA y fun cs1 =>
 gC cs1 fun m4 msA5 =>
 gI .i64 m4 fun By =>
 gC msA5 fun m5 msA6 =>
 gI .i64 m5 fun View =>
 gC msA6 fun m6 msA7 =>
 gS m6 fun Value =>
 gN msA7 <|
 bd (
 bd (dR18Count (.agg [.list L]) (.i .i64 View) (.s Value)) fun rA =>
 gI .i64 rA fun x1 =>
 ifB (decide (need1 ≤ x1)) (
 ifB (decide (best < 0)) (
 some [.b true]) (
 idx L best fun y1 =>
 gA y1 fun cs2 =>
 gC cs2 fun m7 msA8 =>
 gI .i64 m7 fun By1 =>
 gC msA8 fun m8 msA9 =>
 gI .i64 m8 fun View1 =>
 gC msA9 fun m9 msA10 =>
 gS m9 fun Value1 =>
 gN msA10 <|
 some [.b (decide (View1 < View))])) (
 some [.b false])) fun vs1 =>
 gC vs1 fun m10 msA11 =>
 gB m10 fun x2 =>
 gN msA11 <|
 bd (
 ifB x2 (
 some (0, [.i .i64 i])) (
 some (0, [.i .i64 best]))) fun p1 =>
 chk (Nat.beq p1.1 0) <|
 gC p1.2 fun m11 msA12 =>
 gI .i64 m11 fun best1 =>
 gN msA12 <|
 some (.inl [.i .i64 best1, .i .i64 (IntKind.wrap .i64 (i + 1))])) (
 some (.inr (2, [.i .i64 best])))) [.i .i64 (-1), .i .i64 0]) fun p =>
 chk (Nat.beq p.1 2) <|
 gC p.2 fun m12 msA13 =>
 gI .i64 m12 fun best2 =>
 gN msA13 <|
 ifB (decide (best2 < 0)) (
 some (.tup [.i .i64 0, .s ([] : List UInt8), .b false])) (
 idx L best2 fun y2 =>
 gA y2 fun cs3 =>
 gC cs3 fun m13 msA14 =>
 gI .i64 m13 fun By2 =>
 gC msA14 fun m14 msA15 =>
 gI .i64 m14 fun View2 =>
 gC msA15 fun m15 msA16 =>
 gS m15 fun Value2 =>
 gN msA16 <|
 idx L best2 fun y3 =>
 gA y3 fun cs4 =>
 gC cs4 fun m16 msA17 =>
 gI .i64 m16 fun By3 =>
 gC msA17 fun m17 msA18 =>
 gI .i64 m17 fun View3 =>
 gC msA18 fun m18 msA19 =>
 gS m18 fun Value3 =>
 gN msA19 <|
 some (.tup [.i .i64 View2, .s Value3, .b true]))
theorem linkR18Best (t need : MV) : bodyK cxR18Best [] none Try.f29 [t, need] = dR18Best t need := by kernel_rfl
noncomputable def gR18Best : Nat → List MV → Option MV := addG 29 (lst2 dR18Best) gR18Count
theorem soundR18Best : SoundG Try.prog cx gR18Best :=
  soundR18Count.fn (c' := cxR18Best) (caps := []) ⟨rfl, rfl, rfl, rfl, rfl, rfl, rfl⟩ rfl tab_ok eq_ok fk_ok mt_ok mix_ok Try.func29 (by kernel_rfl) (fun _ => rfl) (lst2_of linkR18Best)

noncomputable def cxR18Same : Ctx := ⟨lookT tiTab, kk, gR18Best, gv, frs, lookN ftyOf, 26, [], [], lookL [], lookF fkTab, lookM mtTab, lookL [(6, [0, 1, 2, 3, 4, 5, 6, 7, 8])], lookH [], lookH [], lookH [(4, ⟨[0, 1], [], [(5, .sc (.k (.i .i64)))], [(1, [(4, .sc (.k .b))]), (2, [])], []⟩)]⟩
noncomputable def dR18Same (a b : MV) : Option MV :=
 gL a fun a1 =>
 gL b fun b1 =>
 lenN a1 fun len =>
 lenN b1 fun len1 =>
 ifB (!decide ((len : Int) = (len1 : Int))) (
 some (.b false)) (
 bd (Loop (fun msA =>
 gC msA fun m msA1 =>
 gI .i64 m fun i =>
 gN msA1 <|
 lenN a1 fun len2 =>
 ifB (decide (i < (len2 : Int))) (
 idx a1 i fun y =>
 gA y fun cs =>
 gC cs fun m1 msA2 =>
 gI .i64 m1 fun By =>
 gC msA2 fun m2 msA3 =>
 gI .i64 m2 fun View =>
 gC msA3 fun m3 msA4 =>
 gS m3 fun Value =>
 gN msA4 <|
 idx b1 i fun y1 =>
 gA y1 fun cs1 =>
 gC cs1 fun m4 msA5 =>
 gI .i64 m4 fun By1 =>
 gC msA5 fun m5 msA6 =>
 gI .i64 m5 fun View1 =>
 gC msA6 fun m6 msA7 =>
 gS m6 fun Value1 =>
 gN msA7 <|
 ifB (!((decide (By = By1)) && ((decide (View = View1)) && (decide (Value = Value1))))) (
 some (.inr (1, [.b false]))) (
 some (.inl [.i .i64 (IntKind.wrap .i64 (i + 1))]))) (
 some (.inr (2, [])))) [.i .i64 0]) fun p =>
 ifB (Nat.beq p.1 2) (
 gN p.2 <|
 some (.b true)) (
 chk (Nat.beq p.1 1) <|
 gC p.2 fun m7 msA8 =>
 gB m7 fun x =>
 gN msA8 <|
 some (.b x)))
theorem linkR18Same (a b : MV) : bodyK cxR18Same [] none Try.f30 [a, b] = dR18Same a b := by kernel_rfl
noncomputable def gR18Same : Nat → List MV → Option MV := addG 30 (lst2 dR18Same) gR18Best
theorem soundR18Same : SoundG Try.prog cx gR18Same :=
  soundR18Best.fn (c' := cxR18Same) (caps := []) ⟨rfl, rfl, rfl, rfl, rfl, rfl, rfl⟩ rfl tab_ok eq_ok fk_ok mt_ok mix_ok Try.func30 (by kernel_rfl) (fun _ => rfl) (lst2_of linkR18Same)

noncomputable def cxL18TallyTells : Ctx := ⟨lookT tiTab, kk, gR18Same, gv, frs, lookN ftyOf, 135, [], [], lookL [], lookF fkTab, lookM mtTab, lookL [(5, [0, 2, 1, 3, 4, 5, 6, 7, 8, 9]), (9, [0, 1, 2, 3, 4, 5, 6, 7, 8, 9, 11, 13, 14, 15, 16, 10, 12, 17, 18, 19, 20, 21, 22, 23, 24, 25, 27, 29, 30, 31, 32, 26, 28, 33, 34, 35, 36, 37, 38, 39, 40, 41, 42])], lookH [(9, ⟨[3, 4, 7, 18], [36], [], [(0, [(6, .sc (.k .b))])], [36]⟩), (8, ⟨[3, 4, 7, 8, 9, 10, 11, 12, 13, 14, 15, 16, 17], [36], [], [(0, [(18, .sc (.k .b))])], [36]⟩), (1, ⟨[2, 3, 4], [], [], [(0, [(34, .sc (.k .b))])], [36]⟩)], lookH [], lookH []⟩
noncomputable def dL18TallyTells (a a1 a2 : MV) : Option MV :=
 gA a fun cs =>
 gC cs fun m msA =>
 gL m fun L =>
 gN msA <|
 gA a1 fun cs1 =>
 gC cs1 fun m1 msA1 =>
 gI .i64 m1 fun By =>
 gC msA1 fun m2 msA2 =>
 gI .i64 m2 fun View =>
 gC msA2 fun m3 msA3 =>
 gS m3 fun Value =>
 gN msA3 <|
 gI .i64 a2 fun a2N1 =>
 bd (
 bd (dL18Few (.list L)) fun rA =>
 gB rA fun x =>
 ifB (!x) (
 some [.b true]) (
 ifB (decide ((6100 : Int) < (Value.length : Int))) (
 some [.b true]) (
 bd (dL18Plain (.agg [.list L])) fun rA1 =>
 gA rA1 fun cs2 =>
 gC cs2 fun m4 msA4 =>
 gL m4 fun L1 =>
 gN msA4 <|
 bd (dR18Right (.agg [.list L1])) fun rA2 =>
 gB rA2 fun x1 =>
 some [.b (!x1)]))) fun vs =>
 gC vs fun m5 msA5 =>
 gB m5 fun x2 =>
 gN msA5 <|
 ifB x2 (
 bd (dL18Alive) fun rA3 =>
 gB rA3 fun x3 =>
 some (.b x3)) (
 chk (wids 3 L) <|
 lenN ([] : List MV) fun len =>
 lenN L fun len1 =>
 chk (decide ((len + len1) * 32 ≤ 2 ^ 46)) <|
 bd (dTallyAdd (.agg [.list L]) (.agg [.i .i64 By, .i .i64 View, .s Value])) fun rA4 =>
 gT rA4 fun vs1 =>
 gC vs1 fun m6 msA6 =>
 gA m6 fun cs3 =>
 gC cs3 fun m7 msA7 =>
 gL m7 fun L2 =>
 gN msA7 <|
 gC msA6 fun m8 msA8 =>
 gB m8 fun x4 =>
 gN msA8 <|
 bd (dL18Plain (.agg [.list L])) fun rA5 =>
 gA rA5 fun cs4 =>
 gC cs4 fun m9 msA9 =>
 gL m9 fun L3 =>
 gN msA9 <|
 bd (dR18Add (.agg [.list L3]) (.agg [.i .i64 By, .i .i64 View, .s Value])) fun rA6 =>
 gT rA6 fun vs2 =>
 gC vs2 fun m10 msA10 =>
 gA m10 fun cs5 =>
 gC cs5 fun m11 msA11 =>
 gL m11 fun L4 =>
 gN msA11 <|
 gC msA10 fun m12 msA12 =>
 gB m12 fun x5 =>
 gN msA12 <|
 bd (dTallyBest (.agg [.list L]) (.i .i64 a2N1)) fun rA7 =>
 gT rA7 fun vs3 =>
 gC vs3 fun m13 msA13 =>
 gI .i64 m13 fun x6 =>
 gC msA13 fun m14 msA14 =>
 gS m14 fun x7 =>
 gC msA14 fun m15 msA15 =>
 gB m15 fun x8 =>
 gN msA15 <|
 bd (dL18Plain (.agg [.list L])) fun rA8 =>
 gA rA8 fun cs6 =>
 gC cs6 fun m16 msA16 =>
 gL m16 fun L5 =>
 gN msA16 <|
 bd (dR18Best (.agg [.list L5]) (.i .i64 a2N1)) fun rA9 =>
 gT rA9 fun vs4 =>
 gC vs4 fun m17 msA17 =>
 gI .i64 m17 fun x9 =>
 gC msA17 fun m18 msA18 =>
 gS m18 fun x10 =>
 gC msA18 fun m19 msA19 =>
 gB m19 fun x11 =>
 gN msA19 <|
 bd (
 bd (dR18Same (.list L2) (.list L4)) fun rA10 =>
 gB rA10 fun x12 =>
 ifB x12 (
 ifB (decide (x4 = x5)) (
 ifB (decide (x6 = x9)) (
 ifB (decide (x7 = x10)) (
 some [.b (decide (x8 = x11))]) (
 some [.b false])) (
 some [.b false])) (
 some [.b false])) (
 some [.b false])) fun vs5 =>
 gC vs5 fun m20 msA20 =>
 gB m20 fun x13 =>
 gN msA20 <|
 bd (
 bd (dL18Alive) fun rA11 =>
 gB rA11 fun x14 =>
 ifB x14 (
 ifB x13 (
 bd (dTallyCount (.agg [.list L]) (.i .i64 View) (.s Value)) fun rA12 =>
 gI .i64 rA12 fun x15 =>
 bd (dL18Plain (.agg [.list L])) fun rA13 =>
 gA rA13 fun cs7 =>
 gC cs7 fun m21 msA21 =>
 gL m21 fun L6 =>
 gN msA21 <|
 bd (dR18Count (.agg [.list L6]) (.i .i64 View) (.s Value)) fun rA14 =>
 gI .i64 rA14 fun x16 =>
 ifB (decide (x15 = x16)) (
 bd (dTallyVoters (.agg [.list L]) (.i .i64 View) (.s Value)) fun rA15 =>
 gL rA15 fun x17 =>
 bd (dL18Plain (.agg [.list L])) fun rA16 =>
 gA rA16 fun cs8 =>
 gC cs8 fun m22 msA22 =>
 gL m22 fun L7 =>
 gN msA22 <|
 bd (dR18Voters (.agg [.list L7]) (.i .i64 View) (.s Value)) fun rA17 =>
 gL rA17 fun x18 =>
 bd (dR18Same (.list x17) (.list x18)) fun rA18 =>
 gB rA18 fun x19 =>
 ifB x19 (
 bd (dR18Same (.list L) (.list (([] : List MV) ++ L))) fun rA19 =>
 gB rA19 fun x20 =>
 some [.b x20]) (
 some [.b false])) (
 some [.b false])) (
 some [.b false])) (
 some [.b false])) fun vs6 =>
 gC vs6 fun m23 msA23 =>
 gB m23 fun x21 =>
 gN msA23 <|
 some (.b x21))
theorem linkL18TallyTells (a a1 a2 : MV) : bodyK cxL18TallyTells [] none Try.f4 [a, a1, a2] = dL18TallyTells a a1 a2 := by kernel_rfl
noncomputable def gL18TallyTells : Nat → List MV → Option MV := addG 4 (lst3 dL18TallyTells) gR18Same
theorem soundL18TallyTells : SoundG Try.prog cx gL18TallyTells :=
  soundR18Same.fn (c' := cxL18TallyTells) (caps := []) ⟨rfl, rfl, rfl, rfl, rfl, rfl, rfl⟩ rfl tab_ok eq_ok fk_ok mt_ok mix_ok Try.func4 (by kernel_rfl) (fun _ => rfl) (lst3_of linkL18TallyTells)

noncomputable def cxL18TallyNewest : Ctx := ⟨lookT tiTab, kk, gL18TallyTells, gv, frs, lookN ftyOf, 146, [], [], lookL [], lookF fkTab, lookM mtTab, lookL [(7, [0, 1, 2, 3, 4, 5, 6, 7, 8, 9, 10, 11]), (19, [0, 1, 2, 3, 4, 5, 6, 7, 8, 9, 10, 11, 12, 13, 14, 15, 16, 17, 18]), (20, [0, 1, 2, 3, 4, 5, 6, 7, 8, 9, 10, 11, 12, 13, 14, 15, 16, 17, 18, 19, 20, 21, 22, 23, 24, 25, 26, 27, 28, 29, 30, 31, 32, 33, 34, 35, 36]), (25, [0, 1, 2, 3, 4, 5, 6, 7, 8, 9, 10, 11, 12, 13])], lookH [(30, ⟨[3, 7], [], [], [(0, [(2, .sc (.k .b))])], []⟩), (28, ⟨[0, 3, 7, 8, 9, 12], [], [], [(0, [(137, .sc (.k .b))])], []⟩), (25, ⟨[0, 3, 7, 8, 9, 13], [], [], [(0, [(12, .sc (.k .b))])], []⟩), (20, ⟨[0, 3, 7, 8, 10, 11], [], [], [(0, [(9, .sc (.k .b))])], []⟩), (19, ⟨[0, 3, 7, 8, 9, 10], [], [], [(0, [(11, .sc (.k .b))])], []⟩)], lookH [(27, ⟨[0, 3, 8, 9, 12], [], [], [(0, [(7, .sc (.k (.i .i64)))])], []⟩)], lookH [(23, ⟨[0, 3, 7, 8, 9], [], [(12, .sc (.k .b)), (13, .sc (.k (.i .i64)))], [(8, [(12, .sc (.k .b))])], []⟩), (17, ⟨[0, 3, 7, 8], [], [(9, .sc (.k .b)), (10, .sc (.k (.i .i64)))], [(6, [(9, .sc (.k .b))])], []⟩), (13, ⟨[0, 3], [], [(7, .sc (.k (.i .i64))), (8, .sc (.k (.i .i64)))], [(1, [(2, .sc (.k .b))]), (4, [(7, .sc (.k (.i .i64)))])], []⟩), (5, ⟨[0], [], [(3, .box [.k .l]), (4, .sc (.k (.i .i64)))], [(2, [(3, .box [.k .l])])], []⟩)]⟩
noncomputable def dL18TallyNewest (a : MV) : Option MV :=
 gL a fun a1 =>
 bd (dL18Few (.list a1)) fun rA =>
 gB rA fun x =>
 ifB (!x) (
 bd (dL18Alive) fun rA1 =>
 gB rA1 fun x1 =>
 some (.b x1)) (
 bd (Loop (fun msA =>
 gC msA fun m msA1 =>
 gL m fun x2 =>
 gC msA1 fun m1 msA2 =>
 gI .i64 m1 fun x3 =>
 gN msA2 <|
 lenN a1 fun len =>
 ifB (decide (x3 < (len : Int))) (
 idx a1 x3 fun y =>
 gA y fun cs =>
 gC cs fun m2 msA3 =>
 gI .i64 m2 fun By =>
 gC msA3 fun m3 msA4 =>
 gI .i64 m3 fun View =>
 gC msA4 fun m4 msA5 =>
 gS m4 fun Value =>
 gN msA5 <|
 bd (dTallyAdd (.agg [.list x2]) (.agg [.i .i64 By, .i .i64 View, .s Value])) fun rA2 =>
 gT rA2 fun vs =>
 gC vs fun m5 msA6 =>
 gA m5 fun cs1 =>
 gC cs1 fun m6 msA7 =>
 gL m6 fun L =>
 gN msA7 <|
 gC msA6 fun m7 msA8 =>
 gB m7 fun x4 =>
 gN msA8 <|
 some (.inl [.list L, .i .i64 (IntKind.wrap .i64 (x3 + 1))])) (
 some (.inr (2, [.list x2])))) [.list ([] : List MV), .i .i64 0]) fun p =>
 chk (Nat.beq p.1 2) <|
 gC p.2 fun m8 msA9 =>
 gL m8 fun x5 =>
 gN msA9 <|
 bd (dL18Plain (.agg [.list x5])) fun rA3 =>
 gA rA3 fun cs2 =>
 gC cs2 fun m9 msA10 =>
 gL m9 fun L1 =>
 gN msA10 <|
 bd (dR18Right (.agg [.list L1])) fun rA4 =>
 gB rA4 fun x6 =>
 ifB (!x6) (
 some (.b false)) (
 bd (Loop (fun msA11 =>
 gC msA11 fun m10 msA12 =>
 gI .i64 m10 fun x7 =>
 gC msA12 fun m11 msA13 =>
 gI .i64 m11 fun x8 =>
 gN msA13 <|
 lenN a1 fun len1 =>
 ifB (decide (x8 < (len1 : Int))) (
 idx a1 x8 fun y1 =>
 gA y1 fun cs3 =>
 gC cs3 fun m12 msA14 =>
 gI .i64 m12 fun By1 =>
 gC msA14 fun m13 msA15 =>
 gI .i64 m13 fun View1 =>
 gC msA15 fun m14 msA16 =>
 gS m14 fun Value1 =>
 gN msA16 <|
 bd (dR18May (.agg [.i .i64 By1, .i .i64 View1, .s Value1])) fun rA5 =>
 gB rA5 fun x9 =>
 bd (Loop (fun msA17 =>
 gC msA17 fun m15 msA18 =>
 gB m15 fun x10 =>
 gC msA18 fun m16 msA19 =>
 gI .i64 m16 fun x11 =>
 gN msA19 <|
 lenN a1 fun len2 =>
 ifB (decide (x11 < (len2 : Int))) (
 bd (
 idx a1 x11 fun y2 =>
 gA y2 fun cs4 =>
 gC cs4 fun m17 msA20 =>
 gI .i64 m17 fun By2 =>
 gC msA20 fun m18 msA21 =>
 gI .i64 m18 fun View2 =>
 gC msA21 fun m19 msA22 =>
 gS m19 fun Value2 =>
 gN msA22 <|
 idx a1 x8 fun y3 =>
 gA y3 fun cs5 =>
 gC cs5 fun m20 msA23 =>
 gI .i64 m20 fun By3 =>
 gC msA23 fun m21 msA24 =>
 gI .i64 m21 fun View3 =>
 gC msA24 fun m22 msA25 =>
 gS m22 fun Value3 =>
 gN msA25 <|
 ifB (decide (By2 = By3)) (
 idx a1 x11 fun y4 =>
 gA y4 fun cs6 =>
 gC cs6 fun m23 msA26 =>
 gI .i64 m23 fun By4 =>
 gC msA26 fun m24 msA27 =>
 gI .i64 m24 fun View4 =>
 gC msA27 fun m25 msA28 =>
 gS m25 fun Value4 =>
 gN msA28 <|
 bd (dR18May (.agg [.i .i64 By4, .i .i64 View4, .s Value4])) fun rA6 =>
 gB rA6 fun x12 =>
 some [.b x12]) (
 some [.b false])) fun vs1 =>
 gC vs1 fun m26 msA29 =>
 gB m26 fun x13 =>
 gN msA29 <|
 bd (
 ifB x10 (
 ifB (!x13) (
 some [.b true]) (
 idx a1 x11 fun y5 =>
 gA y5 fun cs7 =>
 gC cs7 fun m27 msA30 =>
 gI .i64 m27 fun By5 =>
 gC msA30 fun m28 msA31 =>
 gI .i64 m28 fun View5 =>
 gC msA31 fun m29 msA32 =>
 gS m29 fun Value5 =>
 gN msA32 <|
 idx a1 x8 fun y6 =>
 gA y6 fun cs8 =>
 gC cs8 fun m30 msA33 =>
 gI .i64 m30 fun By6 =>
 gC msA33 fun m31 msA34 =>
 gI .i64 m31 fun View6 =>
 gC msA34 fun m32 msA35 =>
 gS m32 fun Value6 =>
 gN msA35 <|
 ifB (decide (View5 < View6)) (
 some [.b true]) (
 idx a1 x11 fun y7 =>
 gA y7 fun cs9 =>
 gC cs9 fun m33 msA36 =>
 gI .i64 m33 fun By7 =>
 gC msA36 fun m34 msA37 =>
 gI .i64 m34 fun View7 =>
 gC msA37 fun m35 msA38 =>
 gS m35 fun Value7 =>
 gN msA38 <|
 idx a1 x8 fun y8 =>
 gA y8 fun cs10 =>
 gC cs10 fun m36 msA39 =>
 gI .i64 m36 fun By8 =>
 gC msA39 fun m37 msA40 =>
 gI .i64 m37 fun View8 =>
 gC msA40 fun m38 msA41 =>
 gS m38 fun Value8 =>
 gN msA41 <|
 ifB (decide (View7 = View8)) (
 some [.b (decide (x8 ≤ x11))]) (
 some [.b false])))) (
 some [.b false])) fun vs2 =>
 gC vs2 fun m39 msA42 =>
 gB m39 fun x14 =>
 gN msA42 <|
 some (.inl [.b x14, .i .i64 (IntKind.wrap .i64 (x11 + 1))])) (
 some (.inr (6, [.b x10])))) [.b x9, .i .i64 0]) fun p2 =>
 chk (Nat.beq p2.1 6) <|
 gC p2.2 fun m40 msA43 =>
 gB m40 fun x15 =>
 gN msA43 <|
 bd (Loop (fun msA44 =>
 gC msA44 fun m41 msA45 =>
 gB m41 fun x16 =>
 gC msA45 fun m42 msA46 =>
 gI .i64 m42 fun x17 =>
 gN msA46 <|
 lenN x5 fun len3 =>
 ifB (decide (x17 < (len3 : Int))) (
 bd (
 ifB x16 (
 some [.b true]) (
 idx x5 x17 fun y9 =>
 gA y9 fun cs11 =>
 gC cs11 fun m43 msA47 =>
 gI .i64 m43 fun By9 =>
 gC msA47 fun m44 msA48 =>
 gI .i64 m44 fun View9 =>
 gC msA48 fun m45 msA49 =>
 gS m45 fun Value9 =>
 gN msA49 <|
 idx a1 x8 fun y10 =>
 gA y10 fun cs12 =>
 gC cs12 fun m46 msA50 =>
 gI .i64 m46 fun By10 =>
 gC msA50 fun m47 msA51 =>
 gI .i64 m47 fun View10 =>
 gC msA51 fun m48 msA52 =>
 gS m48 fun Value10 =>
 gN msA52 <|
 some [.b ((decide (By9 = By10)) && ((decide (View9 = View10)) && (decide (Value9 = Value10))))])) fun vs3 =>
 gC vs3 fun m49 msA53 =>
 gB m49 fun x18 =>
 gN msA53 <|
 some (.inl [.b x18, .i .i64 (IntKind.wrap .i64 (x17 + 1))])) (
 some (.inr (8, [.b x16])))) [.b false, .i .i64 0]) fun p3 =>
 chk (Nat.beq p3.1 8) <|
 gC p3.2 fun m50 msA54 =>
 gB m50 fun x19 =>
 gN msA54 <|
 bd (
 ifB x15 (
 some (0, [.i .i64 (IntKind.wrap .i64 (x7 + 1))])) (
 some (0, [.i .i64 x7]))) fun p4 =>
 chk (Nat.beq p4.1 0) <|
 gC p4.2 fun m51 msA55 =>
 gI .i64 m51 fun x20 =>
 gN msA55 <|
 bd (
 ifB x15 (
 some [.b (!x19)]) (
 some [.b false])) fun vs4 =>
 gC vs4 fun m52 msA56 =>
 gB m52 fun x21 =>
 gN msA56 <|
 ifB x21 (
 some (.inr (1, [.b false]))) (
 some (.inl [.i .i64 x20, .i .i64 (IntKind.wrap .i64 (x8 + 1))]))) (
 some (.inr (4, [.i .i64 x7])))) [.i .i64 0, .i .i64 0]) fun p1 =>
 ifB (Nat.beq p1.1 4) (
 gC p1.2 fun m53 msA57 =>
 gI .i64 m53 fun x22 =>
 gN msA57 <|
 bd (
 bd (dL18Alive) fun rA7 =>
 gB rA7 fun x23 =>
 ifB x23 (
 lenN x5 fun len4 =>
 some [.b (decide (x22 = (len4 : Int)))]) (
 some [.b false])) fun vs5 =>
 gC vs5 fun m54 msA58 =>
 gB m54 fun x24 =>
 gN msA58 <|
 some (.b x24)) (
 chk (Nat.beq p1.1 1) <|
 gC p1.2 fun m55 msA59 =>
 gB m55 fun x25 =>
 gN msA59 <|
 some (.b x25))))
theorem linkL18TallyNewest (a : MV) : bodyK cxL18TallyNewest [] none Try.f5 [a] = dL18TallyNewest a := by kernel_rfl
noncomputable def gL18TallyNewest : Nat → List MV → Option MV := addG 5 (lst1 dL18TallyNewest) gL18TallyTells
theorem soundL18TallyNewest : SoundG Try.prog cx gL18TallyNewest :=
  soundL18TallyTells.fn (c' := cxL18TallyNewest) (caps := []) ⟨rfl, rfl, rfl, rfl, rfl, rfl, rfl⟩ rfl tab_ok eq_ok fk_ok mt_ok mix_ok Try.func5 (by kernel_rfl) (fun _ => rfl) (lst1_of linkL18TallyNewest)

noncomputable def cxL18TallyBest : Ctx := ⟨lookT tiTab, kk, gL18TallyNewest, gv, frs, lookN ftyOf, 118, [], [], lookL [], lookF fkTab, lookM mtTab, lookL [(13, [0, 1, 2, 3, 4, 5, 6, 7, 8, 10, 9, 11, 12, 13, 14, 15, 16, 17, 18, 19, 20, 21, 22, 23, 24, 27, 28, 29, 25, 26, 30, 31, 32, 33])], lookH [(13, ⟨[1, 2, 5, 6, 10, 12], [], [], [(0, [(4, .sc (.k .b))])], []⟩), (11, ⟨[5, 6], [], [], [(0, [(4, .sc (.k .b))])], []⟩), (8, ⟨[1, 2, 5, 6, 7, 8, 9], [], [], [(0, [(64, .sc (.k .b))])], []⟩), (1, ⟨[1, 2], [], [], [(0, [(22, .sc (.k .b))])], []⟩)], lookH [], lookH [(5, ⟨[1, 2, 5, 6, 7], [], [(8, .sc (.k (.i .i64)))], [(1, [(4, .sc (.k .b))]), (2, [])], []⟩)]⟩
noncomputable def dL18TallyBest (a a1 : MV) : Option MV :=
 gA a fun cs =>
 gC cs fun m msA =>
 gL m fun L =>
 gN msA <|
 gI .i64 a1 fun a1N1 =>
 bd (
 bd (dL18Few (.list L)) fun rA =>
 gB rA fun x =>
 ifB (!x) (
 some [.b true]) (
 bd (dL18Plain (.agg [.list L])) fun rA1 =>
 gA rA1 fun cs1 =>
 gC cs1 fun m1 msA1 =>
 gL m1 fun L1 =>
 gN msA1 <|
 bd (dR18Right (.agg [.list L1])) fun rA2 =>
 gB rA2 fun x1 =>
 some [.b (!x1)])) fun vs =>
 gC vs fun m2 msA2 =>
 gB m2 fun x2 =>
 gN msA2 <|
 ifB x2 (
 bd (dL18Alive) fun rA3 =>
 gB rA3 fun x3 =>
 some (.b x3)) (
 bd (dTallyBest (.agg [.list L]) (.i .i64 a1N1)) fun rA4 =>
 gT rA4 fun vs1 =>
 gC vs1 fun m3 msA3 =>
 gI .i64 m3 fun x4 =>
 gC msA3 fun m4 msA4 =>
 gS m4 fun x5 =>
 gC msA4 fun m5 msA5 =>
 gB m5 fun x6 =>
 gN msA5 <|
 bd (Loop (fun msA6 =>
 gC msA6 fun m6 msA7 =>
 gI .i64 m6 fun x7 =>
 gN msA7 <|
 lenN L fun len =>
 ifB (decide (x7 < (len : Int))) (
 idx L x7 fun y =>
 gA y fun cs2 =>
 gC cs2 fun m7 msA8 =>
 gI .i64 m7 fun By =>
 gC msA8 fun m8 msA9 =>
 gI .i64 m8 fun View =>
 gC msA9 fun m9 msA10 =>
 gS m9 fun Value =>
 gN msA10 <|
 bd (
 ifB (decide ((1 : Int) ≤ a1N1)) (
 bd (dTallyCount (.agg [.list L]) (.i .i64 View) (.s Value)) fun rA5 =>
 gI .i64 rA5 fun x8 =>
 ifB (decide (a1N1 ≤ x8)) (
 ifB (!x6) (
 some [.b true]) (
 some [.b (decide (x4 < View))])) (
 some [.b false])) (
 some [.b false])) fun vs2 =>
 gC vs2 fun m10 msA11 =>
 gB m10 fun x9 =>
 gN msA11 <|
 ifB x9 (
 some (.inr (1, [.b false]))) (
 some (.inl [.i .i64 (IntKind.wrap .i64 (x7 + 1))]))) (
 some (.inr (2, [])))) [.i .i64 0]) fun p =>
 ifB (Nat.beq p.1 2) (
 gN p.2 <|
 ifB (!x6) (
 bd (
 bd (dL18Alive) fun rA6 =>
 gB rA6 fun x10 =>
 ifB x10 (
 ifB (decide (x4 = 0)) (
 some [.b (decide (x5 = ([] : List UInt8)))]) (
 some [.b false])) (
 some [.b false])) fun vs3 =>
 gC vs3 fun m11 msA12 =>
 gB m11 fun x11 =>
 gN msA12 <|
 some (.b x11)) (
 bd (dTallyBest (.agg [.list L]) (.i .i64 (imax (IntKind.wrap .i64 (a1N1 - 1)) 1))) fun rA7 =>
 gT rA7 fun vs4 =>
 gC vs4 fun m12 msA13 =>
 gI .i64 m12 fun x12 =>
 gC msA13 fun m13 msA14 =>
 gS m13 fun x13 =>
 gC msA14 fun m14 msA15 =>
 gB m14 fun x14 =>
 gN msA15 <|
 bd (
 bd (dL18Alive) fun rA8 =>
 gB rA8 fun x15 =>
 ifB x15 (
 ifB (decide ((1 : Int) ≤ a1N1)) (
 bd (dTallyCount (.agg [.list L]) (.i .i64 x4) (.s x5)) fun rA9 =>
 gI .i64 rA9 fun x16 =>
 ifB (decide (a1N1 ≤ x16)) (
 ifB x14 (
 ifB (decide (x4 ≤ x12)) (
 bd (dTallyVoters (.agg [.list L]) (.i .i64 x4) (.s x5)) fun rA10 =>
 gL rA10 fun x17 =>
 lenN x17 fun len1 =>
 bd (dTallyCount (.agg [.list L]) (.i .i64 x4) (.s x5)) fun rA11 =>
 gI .i64 rA11 fun x18 =>
 some [.b (decide ((len1 : Int) = x18))]) (
 some [.b false])) (
 some [.b false])) (
 some [.b false])) (
 some [.b false])) (
 some [.b false])) fun vs5 =>
 gC vs5 fun m15 msA16 =>
 gB m15 fun x19 =>
 gN msA16 <|
 some (.b x19))) (
 chk (Nat.beq p.1 1) <|
 gC p.2 fun m16 msA17 =>
 gB m16 fun x20 =>
 gN msA17 <|
 some (.b x20)))
theorem linkL18TallyBest (a a1 : MV) : bodyK cxL18TallyBest [] none Try.f6 [a, a1] = dL18TallyBest a a1 := by kernel_rfl
noncomputable def gL18TallyBest : Nat → List MV → Option MV := addG 6 (lst2 dL18TallyBest) gL18TallyNewest
theorem soundL18TallyBest : SoundG Try.prog cx gL18TallyBest :=
  soundL18TallyNewest.fn (c' := cxL18TallyBest) (caps := []) ⟨rfl, rfl, rfl, rfl, rfl, rfl, rfl⟩ rfl tab_ok eq_ok fk_ok mt_ok mix_ok Try.func6 (by kernel_rfl) (fun _ => rfl) (lst2_of linkL18TallyBest)

noncomputable def cxTallyRight : Ctx := ⟨lookT tiTab, kk, gL18TallyBest, gv, frs, lookN ftyOf, 33, [], [], lookL [], lookF fkTab, lookM mtTab, lookL [(4, [0, 1, 2, 3, 4, 5, 6, 7, 8, 9, 10, 11, 12, 13, 14, 15, 16, 17, 18])], lookH [(4, ⟨[1, 3, 4, 6, 7, 8], [], [], [(0, [(31, .sc (.k .b))])], []⟩)], lookH [], lookH [(2, ⟨[1, 6, 7], [], [(8, .sc (.k (.i .i64)))], [(1, [(2, .sc (.k .b))]), (2, [])], []⟩)]⟩
noncomputable def dTallyRight (t : MV) : Option MV :=
 gA t fun cs =>
 gC cs fun m msA =>
 gL m fun L =>
 gN msA <|
 lenN L fun len =>
 bd (Loop (fun msA1 =>
 gC msA1 fun m1 msA2 =>
 gI .i64 m1 fun x =>
 gN msA2 <|
 ifB (decide (x < (len : Int))) (
 idx L x fun y =>
 gA y fun cs1 =>
 gC cs1 fun m2 msA3 =>
 gI .i64 m2 fun By =>
 gC msA3 fun m3 msA4 =>
 gI .i64 m3 fun View =>
 gC msA4 fun m4 msA5 =>
 gS m4 fun Value =>
 gN msA5 <|
 bd (
 bd (dTallyMay (.agg [.i .i64 By, .i .i64 View, .s Value])) fun rA =>
 gB rA fun x1 =>
 ifB (!x1) (
 some [.b true]) (
 ifB (decide ((0 : Int) < x)) (
 idx L (IntKind.wrap .i64 (x - 1)) fun y1 =>
 gA y1 fun cs2 =>
 gC cs2 fun m5 msA6 =>
 gI .i64 m5 fun By1 =>
 gC msA6 fun m6 msA7 =>
 gI .i64 m6 fun View1 =>
 gC msA7 fun m7 msA8 =>
 gS m7 fun Value1 =>
 gN msA8 <|
 some [.b (decide (By ≤ By1))]) (
 some [.b false]))) fun vs =>
 gC vs fun m8 msA9 =>
 gB m8 fun x2 =>
 gN msA9 <|
 ifB x2 (
 some (.inr (1, [.b false]))) (
 some (.inl [.i .i64 (IntKind.wrap .i64 (x + 1))]))) (
 some (.inr (2, [])))) [.i .i64 0]) fun p =>
 ifB (Nat.beq p.1 2) (
 gN p.2 <|
 some (.b true)) (
 chk (Nat.beq p.1 1) <|
 gC p.2 fun m9 msA10 =>
 gB m9 fun x3 =>
 gN msA10 <|
 some (.b x3))
theorem linkTallyRight (t : MV) : bodyK cxTallyRight [] none Try.f60 [t] = dTallyRight t := by kernel_rfl
noncomputable def gTallyRight : Nat → List MV → Option MV := addG 60 (lst1 dTallyRight) gL18TallyBest
theorem soundTallyRight : SoundG Try.prog cx gTallyRight :=
  soundL18TallyBest.fn (c' := cxTallyRight) (caps := []) ⟨rfl, rfl, rfl, rfl, rfl, rfl, rfl⟩ rfl tab_ok eq_ok fk_ok mt_ok mix_ok Try.func60 (by kernel_rfl) (fun _ => rfl) (lst1_of linkTallyRight)

noncomputable def cxSlicesEqualApiAccept : Ctx := ⟨lookT tiTab, kk, gTallyRight, gv, frs, lookN ftyOf, 26, [], [], lookL [], lookF fkTab, lookM mtTab, lookL [(6, [0, 1, 2, 3, 4, 5, 6, 7, 8])], lookH [], lookH [], lookH [(4, ⟨[0, 1, 12], [], [(13, .sc (.k (.i .i64)))], [(1, [(4, .sc (.k .b))]), (2, [])], []⟩)]⟩
noncomputable def dSlicesEqualApiAccept (s1 s2 : MV) : Option MV :=
 gL s1 fun s1N1 =>
 gL s2 fun s2N1 =>
 lenN s1N1 fun len =>
 lenN s2N1 fun len1 =>
 ifB (!decide ((len : Int) = (len1 : Int))) (
 some (.b false)) (
 lenN s1N1 fun len2 =>
 bd (Loop (fun msA =>
 gC msA fun m msA1 =>
 gI .i64 m fun x =>
 gN msA1 <|
 ifB (decide (x < (len2 : Int))) (
 idx s1N1 x fun y =>
 gA y fun cs =>
 gC cs fun m1 msA2 =>
 gI .i64 m1 fun By =>
 gC msA2 fun m2 msA3 =>
 gI .i64 m2 fun View =>
 gC msA3 fun m3 msA4 =>
 gS m3 fun Value =>
 gN msA4 <|
 idx s2N1 x fun y1 =>
 gA y1 fun cs1 =>
 gC cs1 fun m4 msA5 =>
 gI .i64 m4 fun By1 =>
 gC msA5 fun m5 msA6 =>
 gI .i64 m5 fun View1 =>
 gC msA6 fun m6 msA7 =>
 gS m6 fun Value1 =>
 gN msA7 <|
 ifB (!((decide (By = By1)) && ((decide (View = View1)) && (decide (Value = Value1))))) (
 some (.inr (1, [.b false]))) (
 some (.inl [.i .i64 (IntKind.wrap .i64 (x + 1))]))) (
 some (.inr (2, [])))) [.i .i64 0]) fun p =>
 ifB (Nat.beq p.1 2) (
 gN p.2 <|
 some (.b true)) (
 chk (Nat.beq p.1 1) <|
 gC p.2 fun m7 msA8 =>
 gB m7 fun x1 =>
 gN msA8 <|
 some (.b x1)))
theorem linkSlicesEqualApiAccept (s1 s2 : MV) : bodyK cxSlicesEqualApiAccept [] none Try.f96 [s1, s2] = dSlicesEqualApiAccept s1 s2 := by kernel_rfl
noncomputable def gSlicesEqualApiAccept : Nat → List MV → Option MV := addG 96 (lst2 dSlicesEqualApiAccept) gTallyRight
theorem soundSlicesEqualApiAccept : SoundG Try.prog cx gSlicesEqualApiAccept :=
  soundTallyRight.fn (c' := cxSlicesEqualApiAccept) (caps := []) ⟨rfl, rfl, rfl, rfl, rfl, rfl, rfl⟩ rfl tab_ok eq_ok fk_ok mt_ok mix_ok Try.func96 (by kernel_rfl) (fun _ => rfl) (lst2_of linkSlicesEqualApiAccept)

noncomputable def cxTallySame : Ctx := ⟨lookT tiTab, kk, gSlicesEqualApiAccept, gv, frs, lookN ftyOf, 8, [], [], lookL [], lookF fkTab, lookM mtTab, lookL [], lookH [], lookH [], lookH []⟩
noncomputable def dTallySame (a b : MV) : Option MV :=
 gL a fun a1 =>
 gL b fun b1 =>
 bd (dSlicesEqualApiAccept (.list a1) (.list b1)) fun rA =>
 gB rA fun x =>
 some (.b x)
theorem linkTallySame (a b : MV) : bodyK cxTallySame [] none Try.f61 [a, b] = dTallySame a b := by kernel_rfl
noncomputable def gTallySame : Nat → List MV → Option MV := addG 61 (lst2 dTallySame) gSlicesEqualApiAccept
theorem soundTallySame : SoundG Try.prog cx gTallySame :=
  soundSlicesEqualApiAccept.fn (c' := cxTallySame) (caps := []) ⟨rfl, rfl, rfl, rfl, rfl, rfl, rfl⟩ rfl tab_ok eq_ok fk_ok mt_ok mix_ok Try.func61 (by kernel_rfl) (fun _ => rfl) (lst2_of linkTallySame)

noncomputable def cxL18TallyMay : Ctx := ⟨lookT tiTab, kk, gTallySame, gv, frs, lookN ftyOf, 50, [], [], lookL [], lookF fkTab, lookM mtTab, lookL [(3, [0, 1, 2, 4, 3, 5, 6, 7, 8, 9, 11, 10, 12, 13, 14, 15, 16, 17, 18, 19, 21, 22, 23, 20, 24, 25, 26, 27])], lookH [(3, ⟨[2, 3, 4], [], [], [(0, [(6, .sc (.k .b))])], []⟩), (1, ⟨[2, 3, 4], [], [], [(0, [(21, .sc (.k .b))])], []⟩)], lookH [], lookH []⟩
noncomputable def dL18TallyMay (a t u : MV) : Option MV :=
 gA a fun cs =>
 gC cs fun m msA =>
 gI .i64 m fun By =>
 gC msA fun m1 msA1 =>
 gI .i64 m1 fun View =>
 gC msA1 fun m2 msA2 =>
 gS m2 fun Value =>
 gN msA2 <|
 gA t fun cs1 =>
 gC cs1 fun m3 msA3 =>
 gL m3 fun L =>
 gN msA3 <|
 gL u fun u1 =>
 bd (
 bd (dL18Few (.list L)) fun rA =>
 gB rA fun x =>
 ifB (!x) (
 some [.b true]) (
 bd (dL18Few (.list u1)) fun rA1 =>
 gB rA1 fun x1 =>
 ifB (!x1) (
 some [.b true]) (
 some [.b (decide ((6100 : Int) < (Value.length : Int)))]))) fun vs =>
 gC vs fun m4 msA4 =>
 gB m4 fun x2 =>
 gN msA4 <|
 ifB x2 (
 bd (dL18Alive) fun rA2 =>
 gB rA2 fun x3 =>
 some (.b x3)) (
 bd (
 bd (dL18Alive) fun rA3 =>
 gB rA3 fun x4 =>
 ifB x4 (
 bd (dTallyMay (.agg [.i .i64 By, .i .i64 View, .s Value])) fun rA4 =>
 gB rA4 fun x5 =>
 bd (dR18May (.agg [.i .i64 By, .i .i64 View, .s Value])) fun rA5 =>
 gB rA5 fun x6 =>
 ifB (decide (x5 = x6)) (
 bd (dTallyRight (.agg [.list L])) fun rA6 =>
 gB rA6 fun x7 =>
 bd (dL18Plain (.agg [.list L])) fun rA7 =>
 gA rA7 fun cs2 =>
 gC cs2 fun m5 msA5 =>
 gL m5 fun L1 =>
 gN msA5 <|
 bd (dR18Right (.agg [.list L1])) fun rA8 =>
 gB rA8 fun x8 =>
 ifB (decide (x7 = x8)) (
 bd (dTallySame (.list L) (.list u1)) fun rA9 =>
 gB rA9 fun x9 =>
 bd (dR18Same (.list L) (.list u1)) fun rA10 =>
 gB rA10 fun x10 =>
 some [.b (decide (x9 = x10))]) (
 some [.b false])) (
 some [.b false])) (
 some [.b false])) fun vs1 =>
 gC vs1 fun m6 msA6 =>
 gB m6 fun x11 =>
 gN msA6 <|
 some (.b x11))
theorem linkL18TallyMay (a t u : MV) : bodyK cxL18TallyMay [] none Try.f12 [a, t, u] = dL18TallyMay a t u := by kernel_rfl
noncomputable def gL18TallyMay : Nat → List MV → Option MV := addG 12 (lst3 dL18TallyMay) gTallySame
theorem soundL18TallyMay : SoundG Try.prog cx gL18TallyMay :=
  soundTallySame.fn (c' := cxL18TallyMay) (caps := []) ⟨rfl, rfl, rfl, rfl, rfl, rfl, rfl⟩ rfl tab_ok eq_ok fk_ok mt_ok mix_ok Try.func12 (by kernel_rfl) (fun _ => rfl) (lst3_of linkL18TallyMay)

noncomputable def cxL18TallyTwo : Ctx := ⟨lookT tiTab, kk, gL18TallyMay, gv, frs, lookN ftyOf, 109, [], [], lookL [], lookF fkTab, lookM mtTab, lookL [], lookH [(10, ⟨[4, 5, 8, 9, 10, 12, 13, 14], [], [], [(0, [(6, .sc (.k .b))])], []⟩), (8, ⟨[4, 5, 7, 8, 9, 10, 12, 13, 14, 15, 16], [], [], [(0, [(83, .sc (.k .b))])], []⟩), (1, ⟨[3, 4, 5], [], [], [(0, [(38, .sc (.k .b))])], []⟩)], lookH [], lookH []⟩
noncomputable def dL18TallyTwo (a a1 a2 : MV) : Option MV :=
 gA a fun cs =>
 gC cs fun m msA =>
 gL m fun L =>
 gN msA <|
 gA a1 fun cs1 =>
 gC cs1 fun m1 msA1 =>
 gI .i64 m1 fun By =>
 gC msA1 fun m2 msA2 =>
 gI .i64 m2 fun View =>
 gC msA2 fun m3 msA3 =>
 gS m3 fun Value =>
 gN msA3 <|
 gA a2 fun cs2 =>
 gC cs2 fun m4 msA4 =>
 gI .i64 m4 fun By1 =>
 gC msA4 fun m5 msA5 =>
 gI .i64 m5 fun View1 =>
 gC msA5 fun m6 msA6 =>
 gS m6 fun Value1 =>
 gN msA6 <|
 bd (
 bd (dL18Few (.list L)) fun rA =>
 gB rA fun x =>
 ifB (!x) (
 some [.b true]) (
 ifB (decide ((6100 : Int) < (Value.length : Int))) (
 some [.b true]) (
 ifB (decide ((6100 : Int) < (Value1.length : Int))) (
 some [.b true]) (
 bd (dL18Plain (.agg [.list L])) fun rA1 =>
 gA rA1 fun cs3 =>
 gC cs3 fun m7 msA7 =>
 gL m7 fun L1 =>
 gN msA7 <|
 bd (dR18Right (.agg [.list L1])) fun rA2 =>
 gB rA2 fun x1 =>
 some [.b (!x1)])))) fun vs =>
 gC vs fun m8 msA8 =>
 gB m8 fun x2 =>
 gN msA8 <|
 ifB x2 (
 bd (dL18Alive) fun rA3 =>
 gB rA3 fun x3 =>
 some (.b x3)) (
 bd (dTallyAdd (.agg [.list L]) (.agg [.i .i64 By, .i .i64 View, .s Value])) fun rA4 =>
 gT rA4 fun vs1 =>
 gC vs1 fun m9 msA9 =>
 gA m9 fun cs4 =>
 gC cs4 fun m10 msA10 =>
 gL m10 fun L2 =>
 gN msA10 <|
 gC msA9 fun m11 msA11 =>
 gB m11 fun x4 =>
 gN msA11 <|
 bd (dTallyAdd (.agg [.list L2]) (.agg [.i .i64 By1, .i .i64 View1, .s Value1])) fun rA5 =>
 gT rA5 fun vs2 =>
 gC vs2 fun m12 msA12 =>
 gA m12 fun cs5 =>
 gC cs5 fun m13 msA13 =>
 gL m13 fun L3 =>
 gN msA13 <|
 gC msA12 fun m14 msA14 =>
 gB m14 fun x5 =>
 gN msA14 <|
 bd (dTallyAdd (.agg [.list L]) (.agg [.i .i64 By1, .i .i64 View1, .s Value1])) fun rA6 =>
 gT rA6 fun vs3 =>
 gC vs3 fun m15 msA15 =>
 gA m15 fun cs6 =>
 gC cs6 fun m16 msA16 =>
 gL m16 fun L4 =>
 gN msA16 <|
 gC msA15 fun m17 msA17 =>
 gB m17 fun x6 =>
 gN msA17 <|
 bd (dTallyAdd (.agg [.list L4]) (.agg [.i .i64 By, .i .i64 View, .s Value])) fun rA7 =>
 gT rA7 fun vs4 =>
 gC vs4 fun m18 msA18 =>
 gA m18 fun cs7 =>
 gC cs7 fun m19 msA19 =>
 gL m19 fun L5 =>
 gN msA19 <|
 gC msA18 fun m20 msA20 =>
 gB m20 fun x7 =>
 gN msA20 <|
 bd (dTallyAdd (.agg [.list L2]) (.agg [.i .i64 By, .i .i64 View, .s Value])) fun rA8 =>
 gT rA8 fun vs5 =>
 gC vs5 fun m21 msA21 =>
 gA m21 fun cs8 =>
 gC cs8 fun m22 msA22 =>
 gL m22 fun L6 =>
 gN msA22 <|
 gC msA21 fun m23 msA23 =>
 gB m23 fun x8 =>
 gN msA23 <|
 bd (
 ifB x8 (
 some [.b true]) (
 bd (dTallySame (.list L6) (.list L2)) fun rA9 =>
 gB rA9 fun x9 =>
 ifB (!x9) (
 some [.b true]) (
 bd (dTallyRight (.agg [.list L3])) fun rA10 =>
 gB rA10 fun x10 =>
 some [.b (!x10)]))) fun vs6 =>
 gC vs6 fun m24 msA24 =>
 gB m24 fun x11 =>
 gN msA24 <|
 ifB x11 (
 some (.b false)) (
 bd (
 bd (dL18Alive) fun rA11 =>
 gB rA11 fun x12 =>
 ifB x12 (
 ifB (decide (By = By1)) (
 some [.b true]) (
 bd (dTallySame (.list L3) (.list L5)) fun rA12 =>
 gB rA12 fun x13 =>
 ifB x13 (
 ifB (decide (x4 = x7)) (
 some [.b (decide (x5 = x6))]) (
 some [.b false])) (
 some [.b false]))) (
 some [.b false])) fun vs7 =>
 gC vs7 fun m25 msA25 =>
 gB m25 fun x14 =>
 gN msA25 <|
 some (.b x14)))
theorem linkL18TallyTwo (a a1 a2 : MV) : bodyK cxL18TallyTwo [] none Try.f13 [a, a1, a2] = dL18TallyTwo a a1 a2 := by kernel_rfl
noncomputable def gL18TallyTwo : Nat → List MV → Option MV := addG 13 (lst3 dL18TallyTwo) gL18TallyMay
theorem soundL18TallyTwo : SoundG Try.prog cx gL18TallyTwo :=
  soundL18TallyMay.fn (c' := cxL18TallyTwo) (caps := []) ⟨rfl, rfl, rfl, rfl, rfl, rfl, rfl⟩ rfl tab_ok eq_ok fk_ok mt_ok mix_ok Try.func13 (by kernel_rfl) (fun _ => rfl) (lst3_of linkL18TallyTwo)
end Dn.S
