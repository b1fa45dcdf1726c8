import Derived.Test.YtjblhgpbkfmkoaaDnYTab
import Derived.Test.YtjblhgpbkfmkoaaDnC
import Derived.Test.YtjblhgpbkfmkoaaDnYT
import Derived.KernelRfl
import Derived.Test.YtjblhgpbkfmkoaaProg
/-
  The functions, on plain values, and their contracts. Conditions: none.
-/
open Go Dn Go.Proofs
set_option linter.unusedVariables false
set_option linter.unusedSimpArgs false
set_option maxRecDepth 100000
namespace Dn.S
theorem tab_ok : TIok Try.prog (lookT tiTab) := tabB_ok (by kernel_rfl)
theorem eq_ok : EqOK Try.prog (lookT tiTab) := eqTabB_ok (by kernel_rfl)
theorem mix_ok : Try.prog.follows .mixedOrders = true := by kernel_rfl
def lookH : List (Nat × Hint) → Nat → Hint
  | [], _ => default
  | (k, s) :: r, t => bif Nat.beq k t then s else lookH r t
def lookL : List (Nat × List Nat) → Nat → List Nat
  | [], _ => []
  | (k, s) :: r, t => bif Nat.beq k t then s else lookL r t
def lookN : List (Nat × Nat) → Nat → Nat
  | [], _ => 0
  | (k, s) :: r, t => bif Nat.beq k t then s else lookN r t
def kk (n : Nat) : Nat := n
def gv (n : Nat) : Bool := nmem [118, 83] n
def frs (n : Nat) : Bool := nmem [117, 118] n
def ftyOf : List (Nat × Nat) := [(117, 72), (118, 72)]
def lookF : List (Nat × FloatKind) → Nat → Option FloatKind
  | [], _ => none
  | (k, s) :: r, t => bif Nat.beq k t then some s else lookF r t
def fkTab : List (Nat × FloatKind) := [(170, .f64)]
theorem fk_ok : ∀ t k, lookF fkTab t = some k → Try.prog.underlying t = some (.float k) := by
  intro t k h
  unfold fkTab at h
  simp only [lookF] at h
  cases hb : Nat.beq 170 t with
  | true =>
    rw [hb] at h
    have ht := Nat.eq_of_beq_eq_true hb
    subst ht
    simp only [cond_true, Option.some.injEq] at h
    subst h
    exact Try.underlying170
  | false =>
  rw [hb] at h
  simp only [cond_false] at h
  cases h
def mtTab : List (Nat × (Nat × Bool)) := [(184, (186, false)), (190, (9, false))]
def lookG : List (Nat × (Nat × List LK)) → Nat → Option (Nat × List LK)
  | [], _ => none
  | (k, s) :: r, t => bif Nat.beq k t then some s else lookG r t
def sigTab : List (Nat × (Nat × List LK)) := [(83, (1, [.k (.i .i64), .k (.i .i64), .k (.l), .k (.l), .k (.l), .k (.b), .k (.s)]))]
def cx : Ctx := ⟨lookT tiTab, kk, fun _ _ => none, gv, frs, lookN ftyOf, lookG sigTab, [], 0, [], [], fun _ => [], lookF fkTab, lookM mtTab, fun _ => [], fun _ => default, fun _ => default, fun _ => default⟩
theorem mt_ok : MapTys Try.prog cx := mapTabB_ok (l := mtTab) (by kernel_rfl) (fun _ _ h => h)
abbrev sigK83 : List LK := [.k (.i .i64), .k (.i .i64), .k (.l), .k (.l), .k (.l), .k (.b), .k (.s)]
def tiAt (t : Nat) : TI := match lookT tiTab t with | some I => I | none => ⟨false, 0, 0, [], [], [], [], 0, []⟩
theorem tv24 : cx.tv 24 = some (tiAt 24) := by kernel_rfl
theorem tv72 : cx.tv 72 = some (tiAt 72) := by kernel_rfl
theorem hand117 {g : Nat → List MV → Option MV} (h : SoundG Try.prog cx g) : SoundG Try.prog cx (addG 117 (cloneF 3 32) g) := h.add1 (fun _ => rfl) (fun ms r hr => by
  obtain ⟨xs, rfl, rfl, h1, h2⟩ := cloneF_some hr
  exact clone_ok (P := Try.prog) (c := cx) (f := 117) (fn := Try.f117) (t := 24) (I := tiAt 24) (E := tiAt 72) (i0 := 0) (i1 := 1) (i2 := 2) (i3 := 3) (oA := opAt Try.f117 noOp 0) (oB := opAt Try.f117 noOp 1) (oC := opAt Try.f117 noOp 2) (oD := opAt Try.f117 noOp 3) (oE := opAt Try.f117 noOp 4) (oF := opAt Try.f117 noOp 5) (oG := opAt Try.f117 noOp 6) (oH := opAt Try.f117 noOp 7) tab_ok tv24 (by kernel_rfl) tv72 (Nat.le_of_ble_eq_true (by kernel_rfl)) (by kernel_rfl) (by kernel_rfl) Try.func117 (by kernel_rfl) (by kernel_rfl) (by kernel_rfl) (by kernel_rfl)
    ⟨by kernel_rfl, by kernel_rfl, by kernel_rfl⟩ ⟨by kernel_rfl, by kernel_rfl, by kernel_rfl⟩ ⟨by kernel_rfl, by kernel_rfl, by kernel_rfl⟩ ⟨by kernel_rfl, by kernel_rfl, by kernel_rfl⟩ ⟨by kernel_rfl, by kernel_rfl, by kernel_rfl⟩ ⟨by kernel_rfl, by kernel_rfl, by kernel_rfl⟩ ⟨by kernel_rfl, by kernel_rfl, by kernel_rfl⟩ ⟨by kernel_rfl, by kernel_rfl, by kernel_rfl⟩ (by rw [show (tiAt 72).size = 3 by kernel_rfl]; exact h1) (by rw [show (tiAt 72).bytes = 32 by kernel_rfl]; exact h2))
theorem ins118 : InsFn Try.prog 118 24 3 4 72 134 Try.f118 (fun k => k) (opAt Try.f118 noOp) (insTail (opAt Try.f118 noOp)) := by
  refine ⟨Try.func118, by kernel_rfl, by kernel_rfl, by kernel_rfl, by kernel_rfl, ?_, mix_ok, by kernel_rfl⟩
  exact ⟨⟨by kernel_rfl, by kernel_rfl, by kernel_rfl⟩, ⟨by kernel_rfl, by kernel_rfl, by kernel_rfl⟩, ⟨by kernel_rfl, by kernel_rfl, by kernel_rfl⟩, ⟨by kernel_rfl, by kernel_rfl, by kernel_rfl⟩, ⟨by kernel_rfl, by kernel_rfl, by kernel_rfl⟩, ⟨by kernel_rfl, by kernel_rfl, by kernel_rfl⟩, ⟨by kernel_rfl, by kernel_rfl, by kernel_rfl⟩, ⟨by kernel_rfl, by kernel_rfl, by kernel_rfl⟩, ⟨by kernel_rfl, by kernel_rfl, by kernel_rfl⟩, ⟨by kernel_rfl, by kernel_rfl, by kernel_rfl⟩, ⟨by kernel_rfl, by kernel_rfl, by kernel_rfl⟩, ⟨by kernel_rfl, by kernel_rfl, by kernel_rfl⟩, ⟨by kernel_rfl, by kernel_rfl, by kernel_rfl⟩, ⟨by kernel_rfl, by kernel_rfl, by kernel_rfl⟩, ⟨by kernel_rfl, by kernel_rfl, by kernel_rfl⟩, ⟨by kernel_rfl, by kernel_rfl, by kernel_rfl⟩, ⟨by kernel_rfl, by kernel_rfl, by kernel_rfl⟩, ⟨by kernel_rfl, by kernel_rfl, by kernel_rfl⟩, ⟨by kernel_rfl, by kernel_rfl, by kernel_rfl⟩, ⟨by kernel_rfl, by kernel_rfl, by kernel_rfl⟩, ⟨by kernel_rfl, by kernel_rfl, by kernel_rfl⟩, ⟨by kernel_rfl, by kernel_rfl, by kernel_rfl⟩, ⟨by kernel_rfl, by kernel_rfl, by kernel_rfl⟩, ⟨by kernel_rfl, by kernel_rfl, by kernel_rfl⟩, ⟨by kernel_rfl, by kernel_rfl, by kernel_rfl⟩, ⟨by kernel_rfl, by kernel_rfl, by kernel_rfl⟩, ⟨by kernel_rfl, by kernel_rfl, by kernel_rfl⟩, ⟨by kernel_rfl, by kernel_rfl, by kernel_rfl⟩, ⟨by kernel_rfl, by kernel_rfl, by kernel_rfl⟩, ⟨by kernel_rfl, by kernel_rfl, by kernel_rfl⟩, ⟨by kernel_rfl, by kernel_rfl, by kernel_rfl⟩, ⟨by kernel_rfl, by kernel_rfl, by kernel_rfl⟩, ⟨by kernel_rfl, by kernel_rfl, by kernel_rfl⟩, ⟨by kernel_rfl, by kernel_rfl, by kernel_rfl⟩, ⟨by kernel_rfl, by kernel_rfl, by kernel_rfl⟩, ⟨by kernel_rfl, by kernel_rfl, by kernel_rfl⟩, ⟨by kernel_rfl, by kernel_rfl, by kernel_rfl⟩, ⟨by kernel_rfl, by kernel_rfl, by kernel_rfl⟩, ⟨by kernel_rfl, by kernel_rfl, by kernel_rfl⟩, ⟨by kernel_rfl, by kernel_rfl, by kernel_rfl⟩, ⟨by kernel_rfl, by kernel_rfl, by kernel_rfl⟩, ⟨by kernel_rfl, by kernel_rfl, by kernel_rfl⟩, ⟨by kernel_rfl, by kernel_rfl, by kernel_rfl⟩, ⟨by kernel_rfl, by kernel_rfl, by kernel_rfl⟩, ⟨by kernel_rfl, by kernel_rfl, by kernel_rfl⟩, ⟨by kernel_rfl, by kernel_rfl, by kernel_rfl⟩, ⟨by kernel_rfl, by kernel_rfl, by kernel_rfl⟩, ⟨by kernel_rfl, by kernel_rfl, by kernel_rfl⟩, ⟨by kernel_rfl, by kernel_rfl, by kernel_rfl⟩, ⟨by kernel_rfl, by kernel_rfl, by kernel_rfl⟩, ⟨by kernel_rfl, by kernel_rfl, by kernel_rfl⟩, ⟨by kernel_rfl, by kernel_rfl, by kernel_rfl⟩, ⟨by kernel_rfl, by kernel_rfl, by kernel_rfl⟩, ⟨by kernel_rfl, by kernel_rfl, by kernel_rfl⟩, ⟨by kernel_rfl, by kernel_rfl, by kernel_rfl⟩, ⟨by kernel_rfl, by kernel_rfl, by kernel_rfl⟩, ⟨by kernel_rfl, by kernel_rfl, by kernel_rfl⟩, ⟨by kernel_rfl, by kernel_rfl, by kernel_rfl⟩, ⟨by kernel_rfl, by kernel_rfl, by kernel_rfl⟩, ⟨by kernel_rfl, by kernel_rfl, by kernel_rfl⟩, ⟨by kernel_rfl, by kernel_rfl, by kernel_rfl⟩, ⟨by kernel_rfl, by kernel_rfl, by kernel_rfl⟩, ⟨by kernel_rfl, by kernel_rfl, by kernel_rfl⟩, ⟨by kernel_rfl, by kernel_rfl, by kernel_rfl⟩, ⟨by kernel_rfl, by kernel_rfl, by kernel_rfl⟩, ⟨by kernel_rfl, by kernel_rfl, by kernel_rfl⟩, ⟨by kernel_rfl, by kernel_rfl, by kernel_rfl⟩, ⟨by kernel_rfl, by kernel_rfl, by kernel_rfl⟩, ⟨by kernel_rfl, by kernel_rfl, by kernel_rfl⟩, ⟨by kernel_rfl, by kernel_rfl, by kernel_rfl⟩, ⟨by kernel_rfl, by kernel_rfl, by kernel_rfl⟩, ⟨by kernel_rfl, by kernel_rfl, by kernel_rfl⟩, ⟨by kernel_rfl, by kernel_rfl, by kernel_rfl⟩, ⟨by kernel_rfl, by kernel_rfl, by kernel_rfl⟩, ⟨by kernel_rfl, by kernel_rfl, by kernel_rfl⟩, ⟨by kernel_rfl, by kernel_rfl, by kernel_rfl⟩, ⟨by kernel_rfl, by kernel_rfl, by kernel_rfl⟩, ⟨by kernel_rfl, by kernel_rfl, by kernel_rfl⟩, ⟨by kernel_rfl, by kernel_rfl, by kernel_rfl⟩, ⟨by kernel_rfl, by kernel_rfl, by kernel_rfl⟩, ⟨by kernel_rfl, by kernel_rfl, by kernel_rfl⟩, ⟨by kernel_rfl, by kernel_rfl, by kernel_rfl⟩, ⟨by kernel_rfl, by kernel_rfl, by kernel_rfl⟩, by kernel_rfl, by kernel_rfl⟩
theorem ov118 : ∀ args w, (callFunc 134 args).run Try.prog w = ((Extern.SlicesOverlaps.overlaps #[24, 24] #[4] args).run Try.prog w).andThen fun v w' => .ok (.value v) w' := fun args w => run_callFunc_extern Try.func134 (by kernel_rfl) (by kernel_rfl) (by kernel_rfl) (e := Extern.SlicesOverlaps.overlaps #[24, 24] #[4]) (by kernel_rfl) args w
theorem hand118 {g : Nat → List MV → Option MV} (h : SoundG Try.prog cx g) : SoundG Try.prog cx (addG 118 (insertF 32) g) := h.add1 (fun _ => rfl) (fun ms r hr => by
  obtain ⟨xs, ys, i, rfl, rfl, h1, h2, h3⟩ := insertF_some hr
  exact insert_ok (P := Try.prog) (c := cx) (I := tiAt 24) (E := tiAt 72) ins118 tab_ok tv24 (by kernel_rfl) tv72 (Nat.le_of_ble_eq_true (by kernel_rfl)) (by kernel_rfl) (by kernel_rfl) (by kernel_rfl) (by kernel_rfl) ov118 h1 h2 (by rw [show (tiAt 72).bytes = 32 by kernel_rfl]; exact h3))
noncomputable def H117 : Nat → List MV → Option MV := addG 117 (cloneF 3 32) (fun _ _ => none)
theorem soundH117 : SoundG Try.prog cx H117 := hand117 (SoundG.none _ _)
noncomputable def H118 : Nat → List MV → Option MV := addG 118 (insertF 32) H117
theorem soundH118 : SoundG Try.prog cx H118 := hand118 soundH117

noncomputable def cxSizeSizePair : Ctx := ⟨lookT tiTab, kk, H118, gv, frs, lookN ftyOf, lookG sigTab, [], 10, [], [], lookL [], lookF fkTab, lookM mtTab, lookL [], lookH [], lookH [], lookH []⟩
noncomputable def dSizeSizePair (sA : MV) : Option MV :=
 gA sA fun cs =>
 gC cs fun m msA =>
 gI .i64 m fun F =>
 gC msA fun m1 msA1 =>
 gI .i64 m1 fun T =>
 gN msA1 <|
 some (.raw (.complex .f64 (FloatKind.nearest .f64 F) (FloatKind.nearest .f64 T)))
theorem linkSizeSizePair (sA : MV) : bodyK cxSizeSizePair [] none Try.f111 [sA] = dSizeSizePair sA := by kernel_rfl
noncomputable def gSizeSizePair : Nat → List MV → Option MV := addG 111 (lst1 dSizeSizePair) H118
theorem soundSizeSizePair : SoundG Try.prog cx gSizeSizePair :=
  soundH118.fn (c' := cxSizeSizePair) (caps := []) ⟨rfl, rfl, rfl, rfl, rfl, rfl, rfl, rfl⟩ rfl tab_ok eq_ok fk_ok mt_ok mix_ok Try.func111 (by kernel_rfl) (fun _ => rfl) (lst1_of linkSizeSizePair)

noncomputable def cxSizeSizeOf : Ctx := ⟨lookT tiTab, kk, gSizeSizePair, gv, frs, lookN ftyOf, lookG sigTab, [], 21, [], [], lookL [], lookF fkTab, lookM mtTab, lookL [], lookH [], lookH [], lookH []⟩
noncomputable def dSizeSizeOf (sA times : MV) : Option MV :=
 gA sA fun cs =>
 gC cs fun m msA =>
 gI .i64 m fun F =>
 gC msA fun m1 msA1 =>
 gI .i64 m1 fun T =>
 gN msA1 <|
 gR times fun times1 =>
 bd (dSizeSizePair (.agg [.i .i64 F, .i .i64 T])) fun rA =>
 gR rA fun x =>
 gCx x fun re im =>
 gCx times1 fun re1 im1 =>
 bd (FloatKind.f64.format.mul re re1) fun f =>
 gCx x fun re2 im2 =>
 gCx times1 fun re3 im3 =>
 bd (FloatKind.f64.format.mul im2 im3) fun f1 =>
 bd (FloatKind.f64.format.add f f1) fun f2 =>
 bd ((FloatKind.decode .f64 f2).toInt .zero) fun n =>
 chk (decide (IntKind.min .i64 ≤ n ∧ n ≤ IntKind.max .i64)) <|
 some (.i .i64 (IntKind.wrap .i64 (n + 1)))
theorem linkSizeSizeOf (sA times : MV) : bodyK cxSizeSizeOf [] none Try.f91 [sA, times] = dSizeSizeOf sA times := by kernel_rfl
noncomputable def gSizeSizeOf : Nat → List MV → Option MV := addG 91 (lst2 dSizeSizeOf) gSizeSizePair
theorem soundSizeSizeOf : SoundG Try.prog cx gSizeSizeOf :=
  soundSizeSizePair.fn (c' := cxSizeSizeOf) (caps := []) ⟨rfl, rfl, rfl, rfl, rfl, rfl, rfl, rfl⟩ rfl tab_ok eq_ok fk_ok mt_ok mix_ok Try.func91 (by kernel_rfl) (fun _ => rfl) (lst2_of linkSizeSizeOf)

noncomputable def cxSizeN : Ctx := ⟨lookT tiTab, kk, gSizeSizeOf, gv, frs, lookN ftyOf, lookG sigTab, [], 5, [], [], lookL [], lookF fkTab, lookM mtTab, lookL [], lookH [], lookH [], lookH []⟩
noncomputable def dSizeN (sA : MV) : Option MV :=
 gA sA fun cs =>
 gC cs fun m msA =>
 gI .i64 m fun F =>
 gC msA fun m1 msA1 =>
 gI .i64 m1 fun T =>
 gN msA1 <|
 bd (dSizeSizeOf (.agg [.i .i64 F, .i .i64 T]) (.raw (.complex .f64 4613937818241073152 4611686018427387904))) fun rA =>
 gI .i64 rA fun x =>
 some (.i .i64 x)
theorem linkSizeN (sA : MV) : bodyK cxSizeN [] none Try.f45 [sA] = dSizeN sA := by kernel_rfl
noncomputable def gSizeN : Nat → List MV → Option MV := addG 45 (lst1 dSizeN) gSizeSizeOf
theorem soundSizeN : SoundG Try.prog cx gSizeN :=
  soundSizeSizeOf.fn (c' := cxSizeN) (caps := []) ⟨rfl, rfl, rfl, rfl, rfl, rfl, rfl, rfl⟩ rfl tab_ok eq_ok fk_ok mt_ok mix_ok Try.func45 (by kernel_rfl) (fun _ => rfl) (lst1_of linkSizeN)

noncomputable def cxSizeRight : Ctx := ⟨lookT tiTab, kk, gSizeN, gv, frs, lookN ftyOf, lookG sigTab, [], 23, [], [], lookL [], lookF fkTab, lookM mtTab, lookL [], lookH [(1, ⟨[1], [], [], [(0, [(2, .sc (.k .b))])], []⟩)], lookH [], lookH []⟩
noncomputable def dSizeRight (sA : MV) : Option MV :=
 gA sA fun cs =>
 gC cs fun m msA =>
 gI .i64 m fun F =>
 gC msA fun m1 msA1 =>
 gI .i64 m1 fun T =>
 gN msA1 <|
 bd (
 ifB (decide ((1 : Int) ≤ F)) (
 ifB (decide (F ≤ 5)) (
 ifB (decide ((0 : Int) ≤ T)) (
 some [.b (decide (T ≤ F))]) (
 some [.b false])) (
 some [.b false])) (
 some [.b false])) fun vs =>
 gC vs fun m2 msA2 =>
 gB m2 fun x =>
 gN msA2 <|
 some (.b x)
theorem linkSizeRight (sA : MV) : bodyK cxSizeRight [] none Try.f61 [sA] = dSizeRight sA := by kernel_rfl
noncomputable def gSizeRight : Nat → List MV → Option MV := addG 61 (lst1 dSizeRight) gSizeN
theorem soundSizeRight : SoundG Try.prog cx gSizeRight :=
  soundSizeN.fn (c' := cxSizeRight) (caps := []) ⟨rfl, rfl, rfl, rfl, rfl, rfl, rfl, rfl⟩ rfl tab_ok eq_ok fk_ok mt_ok mix_ok Try.func61 (by kernel_rfl) (fun _ => rfl) (lst1_of linkSizeRight)

noncomputable def cxSizeProof : Ctx := ⟨lookT tiTab, kk, gSizeRight, gv, frs, lookN ftyOf, lookG sigTab, [], 5, [], [], lookL [], lookF fkTab, lookM mtTab, lookL [], lookH [], lookH [], lookH []⟩
noncomputable def dSizeProof (sA : MV) : Option MV :=
 gA sA fun cs =>
 gC cs fun m msA =>
 gI .i64 m fun F =>
 gC msA fun m1 msA1 =>
 gI .i64 m1 fun T =>
 gN msA1 <|
 bd (dSizeSizeOf (.agg [.i .i64 F, .i .i64 T]) (.raw (.complex .f64 4611686018427387904 4607182418800017408))) fun rA =>
 gI .i64 rA fun x =>
 some (.i .i64 x)
theorem linkSizeProof (sA : MV) : bodyK cxSizeProof [] none Try.f46 [sA] = dSizeProof sA := by kernel_rfl
noncomputable def gSizeProof : Nat → List MV → Option MV := addG 46 (lst1 dSizeProof) gSizeRight
theorem soundSizeProof : SoundG Try.prog cx gSizeProof :=
  soundSizeRight.fn (c' := cxSizeProof) (caps := []) ⟨rfl, rfl, rfl, rfl, rfl, rfl, rfl, rfl⟩ rfl tab_ok eq_ok fk_ok mt_ok mix_ok Try.func46 (by kernel_rfl) (fun _ => rfl) (lst1_of linkSizeProof)

noncomputable def cxTallyMay : Ctx := ⟨lookT tiTab, kk, gSizeProof, gv, frs, lookN ftyOf, lookG sigTab, [], 22, [], [], lookL [], lookF fkTab, lookM mtTab, lookL [], lookH [(1, ⟨[1], [], [], [(0, [(2, .sc (.k .b))])], []⟩)], lookH [], lookH []⟩
noncomputable def dTallyMay (a : MV) : Option MV :=
 gA a fun cs =>
 gC cs fun m msA =>
 gI .i64 m fun By =>
 gC msA fun m1 msA1 =>
 gI .i64 m1 fun View =>
 gC msA1 fun m2 msA2 =>
 gS m2 fun Value =>
 gN msA2 <|
 bd (
 ifB (decide ((0 : Int) ≤ By)) (
 ifB (decide ((0 : Int) ≤ View)) (
 ifB (decide (View ≤ 100000)) (
 some [.b (decide ((Value.length : Int) ≤ 6000))]) (
 some [.b false])) (
 some [.b false])) (
 some [.b false])) fun vs =>
 gC vs fun m3 msA3 =>
 gB m3 fun x =>
 gN msA3 <|
 some (.b x)
theorem linkTallyMay (a : MV) : bodyK cxTallyMay [] none Try.f96 [a] = dTallyMay a := by kernel_rfl
noncomputable def gTallyMay : Nat → List MV → Option MV := addG 96 (lst1 dTallyMay) gSizeProof
theorem soundTallyMay : SoundG Try.prog cx gTallyMay :=
  soundSizeProof.fn (c' := cxTallyMay) (caps := []) ⟨rfl, rfl, rfl, rfl, rfl, rfl, rfl, rfl⟩ rfl tab_ok eq_ok fk_ok mt_ok mix_ok Try.func96 (by kernel_rfl) (fun _ => rfl) (lst1_of linkTallyMay)

noncomputable def cxTallyRight : Ctx := ⟨lookT tiTab, kk, gTallyMay, gv, frs, lookN ftyOf, lookG sigTab, [], 33, [], [], lookL [], lookF fkTab, lookM mtTab, lookL [(4, [0, 1, 2, 3, 4, 5, 6, 7, 8, 9, 10, 11, 12, 13, 14, 15, 16, 17, 18])], lookH [(4, ⟨[1, 3, 4, 6, 7, 8], [], [], [(0, [(31, .sc (.k .b))])], []⟩)], lookH [], lookH [(2, ⟨[1, 6, 7], [], [(8, .sc (.k (.i .i64)))], [(1, [(2, .sc (.k .b))]), (2, [])], []⟩)]⟩
noncomputable def dTallyRight (t : MV) : Option MV :=
 gA t fun cs =>
 gC cs fun m msA =>
 gL m fun L =>
 gN msA <|
 lenN L fun len =>
 bd (Loop (fun msA1 =>
 gC msA1 fun m1 msA2 =>
 gI .i64 m1 fun x =>
 gN msA2 <|
 ifB (decide (x < (len : Int))) (
 idx L x fun y =>
 gA y fun cs1 =>
 gC cs1 fun m2 msA3 =>
 gI .i64 m2 fun By =>
 gC msA3 fun m3 msA4 =>
 gI .i64 m3 fun View =>
 gC msA4 fun m4 msA5 =>
 gS m4 fun Value =>
 gN msA5 <|
 bd (
 bd (dTallyMay (.agg [.i .i64 By, .i .i64 View, .s Value])) fun rA =>
 gB rA fun x1 =>
 ifB (!x1) (
 some [.b true]) (
 ifB (decide ((0 : Int) < x)) (
 idx L (IntKind.wrap .i64 (x - 1)) fun y1 =>
 gA y1 fun cs2 =>
 gC cs2 fun m5 msA6 =>
 gI .i64 m5 fun By1 =>
 gC msA6 fun m6 msA7 =>
 gI .i64 m6 fun View1 =>
 gC msA7 fun m7 msA8 =>
 gS m7 fun Value1 =>
 gN msA8 <|
 some [.b (decide (By ≤ By1))]) (
 some [.b false]))) fun vs =>
 gC vs fun m8 msA9 =>
 gB m8 fun x2 =>
 gN msA9 <|
 ifB x2 (
 some (.inr (1, [.b false]))) (
 some (.inl [.i .i64 (IntKind.wrap .i64 (x + 1))]))) (
 some (.inr (2, [])))) [.i .i64 0]) fun p =>
 ifB (Nat.beq p.1 2) (
 gN p.2 <|
 some (.b true)) (
 chk (Nat.beq p.1 1) <|
 gC p.2 fun m9 msA10 =>
 gB m9 fun x3 =>
 gN msA10 <|
 some (.b x3))
theorem linkTallyRight (t : MV) : bodyK cxTallyRight [] none Try.f66 [t] = dTallyRight t := by kernel_rfl
noncomputable def gTallyRight : Nat → List MV → Option MV := addG 66 (lst1 dTallyRight) gTallyMay
theorem soundTallyRight : SoundG Try.prog cx gTallyRight :=
  soundTallyMay.fn (c' := cxTallyRight) (caps := []) ⟨rfl, rfl, rfl, rfl, rfl, rfl, rfl, rfl⟩ rfl tab_ok eq_ok fk_ok mt_ok mix_ok Try.func66 (by kernel_rfl) (fun _ => rfl) (lst1_of linkTallyRight)

noncomputable def cxTallyVoters : Ctx := ⟨lookT tiTab, kk, gTallyRight, gv, frs, lookN ftyOf, lookG sigTab, [], 33, [29], [], lookL [], lookF fkTab, lookM mtTab, lookL [], lookH [(5, ⟨[1, 2, 7, 9, 11, 12, 13], [30], [], [(0, [(26, .sc (.k .b))])], [29, 30]⟩)], lookH [(6, ⟨[1, 2, 9, 11, 12, 13], [], [], [(0, [(7, .sc (.own 30 72 true))])], [29, 30]⟩)], lookH [(3, ⟨[1, 2, 11, 12], [], [(7, .sc (.own 30 72 true)), (13, .sc (.k (.i .i64)))], [(2, [(7, .sc (.own 30 72 true))])], [29, 30]⟩)]⟩
noncomputable def dTallyVoters (t view value : MV) : Option MV :=
 gA t fun cs =>
 gC cs fun m msA =>
 gL m fun L =>
 gN msA <|
 gI .i64 view fun view1 =>
 gS value fun value1 =>
 lenN L fun len =>
 bd (Loop (fun msA1 =>
 gC msA1 fun m1 msA2 =>
 gL m1 fun out =>
 gC msA2 fun m2 msA3 =>
 gI .i64 m2 fun x =>
 gN msA3 <|
 ifB (decide (x < (len : Int))) (
 idx L x fun y =>
 gA y fun cs1 =>
 gC cs1 fun m3 msA4 =>
 gI .i64 m3 fun By =>
 gC msA4 fun m4 msA5 =>
 gI .i64 m4 fun View =>
 gC msA5 fun m5 msA6 =>
 gS m5 fun Value =>
 gN msA6 <|
 bd (
 ifB (decide (View = view1)) (
 some [.b (decide (Value = value1))]) (
 some [.b false])) fun vs =>
 gC vs fun m6 msA7 =>
 gB m6 fun x1 =>
 gN msA7 <|
 bd (
 ifB x1 (
 lenN out fun len1 =>
 lenN ([.agg [.i .i64 By, .i .i64 View, .s Value]] : List MV) fun len2 =>
 chk (decide ((len1 + len2) * 32 ≤ 2 ^ 46)) <|
 some (0, [.list (out ++ ([.agg [.i .i64 By, .i .i64 View, .s Value]] : List MV))])) (
 some (0, [.list out]))) fun p1 =>
 chk (Nat.beq p1.1 0) <|
 gC p1.2 fun m7 msA8 =>
 gL m7 fun out1 =>
 gN msA8 <|
 some (.inl [.list out1, .i .i64 (IntKind.wrap .i64 (x + 1))])) (
 some (.inr (2, [.list out])))) [.list ([] : List MV), .i .i64 0]) fun p =>
 chk (Nat.beq p.1 2) <|
 gC p.2 fun m8 msA9 =>
 gL m8 fun out2 =>
 gN msA9 <|
 some (.list out2)
theorem linkTallyVoters (t view value : MV) : bodyK cxTallyVoters [] none Try.f119 [t, view, value] = dTallyVoters t view value := by kernel_rfl
noncomputable def gTallyVoters : Nat → List MV → Option MV := addG 119 (lst3 dTallyVoters) gTallyRight
theorem soundTallyVoters : SoundG Try.prog cx gTallyVoters :=
  soundTallyRight.fn (c' := cxTallyVoters) (caps := []) ⟨rfl, rfl, rfl, rfl, rfl, rfl, rfl, rfl⟩ rfl tab_ok eq_ok fk_ok mt_ok mix_ok Try.func119 (by kernel_rfl) (fun _ => rfl) (lst3_of linkTallyVoters)

noncomputable def cxTallyCount : Ctx := ⟨lookT tiTab, kk, gTallyVoters, gv, frs, lookN ftyOf, lookG sigTab, [], 12, [], [], lookL [], lookF fkTab, lookM mtTab, lookL [], lookH [], lookH [], lookH []⟩
noncomputable def dTallyCount (t view value : MV) : Option MV :=
 gA t fun cs =>
 gC cs fun m msA =>
 gL m fun L =>
 gN msA <|
 gI .i64 view fun view1 =>
 gS value fun value1 =>
 bd (dTallyVoters (.agg [.list L]) (.i .i64 view1) (.s value1)) fun rA =>
 gL rA fun x =>
 lenN x fun len =>
 some (.i .i64 (len : Int))
theorem linkTallyCount (t view value : MV) : bodyK cxTallyCount [] none Try.f110 [t, view, value] = dTallyCount t view value := by kernel_rfl
noncomputable def gTallyCount : Nat → List MV → Option MV := addG 110 (lst3 dTallyCount) gTallyVoters
theorem soundTallyCount : SoundG Try.prog cx gTallyCount :=
  soundTallyVoters.fn (c' := cxTallyCount) (caps := []) ⟨rfl, rfl, rfl, rfl, rfl, rfl, rfl, rfl⟩ rfl tab_ok eq_ok fk_ok mt_ok mix_ok Try.func110 (by kernel_rfl) (fun _ => rfl) (lst3_of linkTallyCount)

noncomputable def cxProofRight : Ctx := ⟨lookT tiTab, kk, gTallyCount, gv, frs, lookN ftyOf, lookG sigTab, [], 47, [], [], lookL [], lookF fkTab, lookM mtTab, lookL [(3, [0, 1, 2, 3, 4, 5, 6, 7, 8, 9, 10, 11, 12, 13, 14, 15, 16, 17, 18, 19, 20, 22, 23, 21, 24, 25, 26])], lookH [(3, ⟨[1, 2], [], [], [(0, [(4, .sc (.k .b))])], []⟩), (1, ⟨[1, 2], [], [], [(0, [(20, .sc (.k .b))])], []⟩)], lookH [], lookH []⟩
noncomputable def dProofRight (sA p : MV) : Option MV :=
 gA sA fun cs =>
 gC cs fun m msA =>
 gI .i64 m fun F =>
 gC msA fun m1 msA1 =>
 gI .i64 m1 fun T =>
 gN msA1 <|
 gL p fun p1 =>
 bd (
 bd (dSizeRight (.agg [.i .i64 F, .i .i64 T])) fun rA =>
 gB rA fun x =>
 ifB (!x) (
 some [.b true]) (
 lenN p1 fun len =>
 bd (dSizeProof (.agg [.i .i64 F, .i .i64 T])) fun rA1 =>
 gI .i64 rA1 fun x1 =>
 ifB (!decide ((len : Int) = x1)) (
 some [.b true]) (
 bd (dTallyRight (.agg [.list p1])) fun rA2 =>
 gB rA2 fun x2 =>
 some [.b (!x2)]))) fun vs =>
 gC vs fun m2 msA2 =>
 gB m2 fun x3 =>
 gN msA2 <|
 ifB x3 (
 some (.b false)) (
 bd (
 lenN p1 fun len1 =>
 idx p1 (IntKind.wrap .i64 ((len1 : Int) - 1)) fun y =>
 gA y fun cs1 =>
 gC cs1 fun m3 msA3 =>
 gI .i64 m3 fun By =>
 gC msA3 fun m4 msA4 =>
 gI .i64 m4 fun View =>
 gC msA4 fun m5 msA5 =>
 gS m5 fun Value =>
 gN msA5 <|
 bd (dSizeN (.agg [.i .i64 F, .i .i64 T])) fun rA3 =>
 gI .i64 rA3 fun x4 =>
 ifB (decide (By < x4)) (
 idx p1 0 fun y1 =>
 gA y1 fun cs2 =>
 gC cs2 fun m6 msA6 =>
 gI .i64 m6 fun By1 =>
 gC msA6 fun m7 msA7 =>
 gI .i64 m7 fun View1 =>
 gC msA7 fun m8 msA8 =>
 gS m8 fun Value1 =>
 gN msA8 <|
 idx p1 0 fun y2 =>
 gA y2 fun cs3 =>
 gC cs3 fun m9 msA9 =>
 gI .i64 m9 fun By2 =>
 gC msA9 fun m10 msA10 =>
 gI .i64 m10 fun View2 =>
 gC msA10 fun m11 msA11 =>
 gS m11 fun Value2 =>
 gN msA11 <|
 lenN p1 fun len2 =>
 bd (dTallyCount (.agg [.list p1]) (.i .i64 View1) (.s Value2)) fun rA4 =>
 gI .i64 rA4 fun x5 =>
 some [.b (decide (x5 = (len2 : Int)))]) (
 some [.b false])) fun vs1 =>
 gC vs1 fun m12 msA12 =>
 gB m12 fun x6 =>
 gN msA12 <|
 some (.b x6))
theorem linkProofRight (sA p : MV) : bodyK cxProofRight [] none Try.f88 [sA, p] = dProofRight sA p := by kernel_rfl
noncomputable def gProofRight : Nat → List MV → Option MV := addG 88 (lst2 dProofRight) gTallyCount
theorem soundProofRight : SoundG Try.prog cx gProofRight :=
  soundTallyCount.fn (c' := cxProofRight) (caps := []) ⟨rfl, rfl, rfl, rfl, rfl, rfl, rfl, rfl⟩ rfl tab_ok eq_ok fk_ok mt_ok mix_ok Try.func88 (by kernel_rfl) (fun _ => rfl) (lst2_of linkProofRight)

noncomputable def cxProofOf : Ctx := ⟨lookT tiTab, kk, gProofRight, gv, frs, lookN ftyOf, lookG sigTab, [], 16, [], [], lookL [], lookF fkTab, lookM mtTab, lookL [(3, [0, 1, 2, 3, 4, 5, 6, 7, 8, 9, 10])], lookH [], lookH [], lookH []⟩
noncomputable def dProofOf (p : MV) : Option MV :=
 gL p fun p1 =>
 lenN p1 fun len =>
 ifB (decide ((len : Int) = 0)) (
 some (.tup [.i .i64 (-1), .s ([] : List UInt8), .b false])) (
 idx p1 0 fun y =>
 gA y fun cs =>
 gC cs fun m msA =>
 gI .i64 m fun By =>
 gC msA fun m1 msA1 =>
 gI .i64 m1 fun View =>
 gC msA1 fun m2 msA2 =>
 gS m2 fun Value =>
 gN msA2 <|
 idx p1 0 fun y1 =>
 gA y1 fun cs1 =>
 gC cs1 fun m3 msA3 =>
 gI .i64 m3 fun By1 =>
 gC msA3 fun m4 msA4 =>
 gI .i64 m4 fun View1 =>
 gC msA4 fun m5 msA5 =>
 gS m5 fun Value1 =>
 gN msA5 <|
 some (.tup [.i .i64 View, .s Value1, .b true]))
theorem linkProofOf (p : MV) : bodyK cxProofOf [] none Try.f80 [p] = dProofOf p := by kernel_rfl
noncomputable def gProofOf : Nat → List MV → Option MV := addG 80 (lst1 dProofOf) gProofRight
theorem soundProofOf : SoundG Try.prog cx gProofOf :=
  soundProofRight.fn (c' := cxProofOf) (caps := []) ⟨rfl, rfl, rfl, rfl, rfl, rfl, rfl, rfl⟩ rfl tab_ok eq_ok fk_ok mt_ok mix_ok Try.func80 (by kernel_rfl) (fun _ => rfl) (lst1_of linkProofOf)

noncomputable def cxLearnerNew : Ctx := ⟨lookT tiTab, kk, gProofOf, gv, frs, lookN ftyOf, lookG sigTab, [], 10, [], [], lookL [], lookF fkTab, lookM mtTab, lookL [], lookH [], lookH [], lookH []⟩
noncomputable def dLearnerNew (sA : MV) : Option MV :=
 gA sA fun cs =>
 gC cs fun m msA =>
 gI .i64 m fun F =>
 gC msA fun m1 msA1 =>
 gI .i64 m1 fun T =>
 gN msA1 <|
 bd (dSizeRight (.agg [.i .i64 F, .i .i64 T])) fun rA =>
 gB rA fun x =>
 ifB (!x) (
 some (.tup [.agg [.i .i64 0, .i .i64 0, .list ([] : List MV), .list ([] : List MV), .list ([] : List MV), .b false, .s ([] : List UInt8)], .i .i64 1])) (
 some (.tup [.agg [.i .i64 F, .i .i64 T, .list ([] : List MV), .list ([] : List MV), .list ([] : List MV), .b false, .s ([] : List UInt8)], .i .i64 0]))
theorem linkLearnerNew (sA : MV) : bodyK cxLearnerNew [] none Try.f26 [sA] = dLearnerNew sA := by kernel_rfl
noncomputable def gLearnerNew : Nat → List MV → Option MV := addG 26 (lst1 dLearnerNew) gProofOf
theorem soundLearnerNew : SoundG Try.prog cx gLearnerNew :=
  soundProofOf.fn (c' := cxLearnerNew) (caps := []) ⟨rfl, rfl, rfl, rfl, rfl, rfl, rfl, rfl⟩ rfl tab_ok eq_ok fk_ok mt_ok mix_ok Try.func26 (by kernel_rfl) (fun _ => rfl) (lst1_of linkLearnerNew)

noncomputable def cxSizeWeak : Ctx := ⟨lookT tiTab, kk, gLearnerNew, gv, frs, lookN ftyOf, lookG sigTab, [], 5, [], [], lookL [], lookF fkTab, lookM mtTab, lookL [], lookH [], lookH [], lookH []⟩
noncomputable def dSizeWeak (sA : MV) : Option MV :=
 gA sA fun cs =>
 gC cs fun m msA =>
 gI .i64 m fun F =>
 gC msA fun m1 msA1 =>
 gI .i64 m1 fun T =>
 gN msA1 <|
 bd (dSizeSizeOf (.agg [.i .i64 F, .i .i64 T]) (.raw (.complex .f64 4607182418800017408 0))) fun rA =>
 gI .i64 rA fun x =>
 some (.i .i64 x)
theorem linkSizeWeak (sA : MV) : bodyK cxSizeWeak [] none Try.f48 [sA] = dSizeWeak sA := by kernel_rfl
noncomputable def gSizeWeak : Nat → List MV → Option MV := addG 48 (lst1 dSizeWeak) gLearnerNew
theorem soundSizeWeak : SoundG Try.prog cx gSizeWeak :=
  soundLearnerNew.fn (c' := cxSizeWeak) (caps := []) ⟨rfl, rfl, rfl, rfl, rfl, rfl, rfl, rfl⟩ rfl tab_ok eq_ok fk_ok mt_ok mix_ok Try.func48 (by kernel_rfl) (fun _ => rfl) (lst1_of linkSizeWeak)

noncomputable def cxCmpIsNaNInt : Ctx := ⟨lookT tiTab, kk, gSizeWeak, gv, frs, lookN ftyOf, lookG sigTab, [], 6, [], [], lookL [], lookF fkTab, lookM mtTab, lookL [], lookH [], lookH [], lookH []⟩
noncomputable def dCmpIsNaNInt (x : MV) : Option MV :=
 gI .i64 x fun x1 =>
 some (.b (!decide (x1 = x1)))
theorem linkCmpIsNaNInt (x : MV) : bodyK cxCmpIsNaNInt [] none Try.f133 [x] = dCmpIsNaNInt x := by kernel_rfl
noncomputable def gCmpIsNaNInt : Nat → List MV → Option MV := addG 133 (lst1 dCmpIsNaNInt) gSizeWeak
theorem soundCmpIsNaNInt : SoundG Try.prog cx gCmpIsNaNInt :=
  soundSizeWeak.fn (c' := cxCmpIsNaNInt) (caps := []) ⟨rfl, rfl, rfl, rfl, rfl, rfl, rfl, rfl⟩ rfl tab_ok eq_ok fk_ok mt_ok mix_ok Try.func133 (by kernel_rfl) (fun _ => rfl) (lst1_of linkCmpIsNaNInt)

noncomputable def cxCmpCompareInt : Ctx := ⟨lookT tiTab, kk, gCmpIsNaNInt, gv, frs, lookN ftyOf, lookG sigTab, [], 20, [], [], lookL [], lookF fkTab, lookM mtTab, lookL [], lookH [], lookH [], lookH []⟩
noncomputable def dCmpCompareInt (x y : MV) : Option MV :=
 gI .i64 x fun x1 =>
 gI .i64 y fun y1 =>
 bd (dCmpIsNaNInt (.i .i64 x1)) fun rA =>
 gB rA fun x2 =>
 bd (dCmpIsNaNInt (.i .i64 y1)) fun rA1 =>
 gB rA1 fun x3 =>
 ifB x2 (
 ifB x3 (
 some (.i .i64 0)) (
 some (.i .i64 (-1)))) (
 ifB x3 (
 some (.i .i64 1)) (
 ifB (decide (x1 < y1)) (
 some (.i .i64 (-1))) (
 ifB (decide (y1 < x1)) (
 some (.i .i64 1)) (
 some (.i .i64 0)))))
theorem linkCmpCompareInt (x y : MV) : bodyK cxCmpCompareInt [] none Try.f116 [x, y] = dCmpCompareInt x y := by kernel_rfl
noncomputable def gCmpCompareInt : Nat → List MV → Option MV := addG 116 (lst2 dCmpCompareInt) gCmpIsNaNInt
theorem soundCmpCompareInt : SoundG Try.prog cx gCmpCompareInt :=
  soundCmpIsNaNInt.fn (c' := cxCmpCompareInt) (caps := []) ⟨rfl, rfl, rfl, rfl, rfl, rfl, rfl, rfl⟩ rfl tab_ok eq_ok fk_ok mt_ok mix_ok Try.func116 (by kernel_rfl) (fun _ => rfl) (lst2_of linkCmpCompareInt)

noncomputable def cxTallyAddF1 : Ctx := ⟨lookT tiTab, kk, gCmpCompareInt, gv, frs, lookN ftyOf, lookG sigTab, [], 9, [], [], lookL [], lookF fkTab, lookM mtTab, lookL [], lookH [], lookH [], lookH []⟩
noncomputable def dTallyAddF1 (x byA : MV) : Option MV :=
 gA x fun cs =>
 gC cs fun m msA =>
 gI .i64 m fun By =>
 gC msA fun m1 msA1 =>
 gI .i64 m1 fun View =>
 gC msA1 fun m2 msA2 =>
 gS m2 fun Value =>
 gN msA2 <|
 gI .i64 byA fun byA1 =>
 bd (dCmpCompareInt (.i .i64 By) (.i .i64 byA1)) fun rA =>
 gI .i64 rA fun x1 =>
 some (.i .i64 x1)
theorem linkTallyAddF1 (x byA : MV) : bodyK cxTallyAddF1 [] none Try.f115 [x, byA] = dTallyAddF1 x byA := by kernel_rfl
noncomputable def gTallyAddF1 : Nat → List MV → Option MV := addG 115 (lst2 dTallyAddF1) gCmpCompareInt
theorem soundTallyAddF1 : SoundG Try.prog cx gTallyAddF1 :=
  soundCmpCompareInt.fn (c' := cxTallyAddF1) (caps := []) ⟨rfl, rfl, rfl, rfl, rfl, rfl, rfl, rfl⟩ rfl tab_ok eq_ok fk_ok mt_ok mix_ok Try.func115 (by kernel_rfl) (fun _ => rfl) (lst2_of linkTallyAddF1)
noncomputable def preSlicesBinarySearchFuncApiAcceptInt : Nat → List MV → Option MV := gTallyAddF1
theorem atSlicesBinarySearchFuncApiAcceptIntTallyAddF1 (x0 x1 : MV) : preSlicesBinarySearchFuncApiAcceptInt 115 [x0, x1] = dTallyAddF1 x0 x1 := by kernel_rfl

noncomputable def cxSlicesBinarySearchFuncApiAcceptInt : Ctx := ⟨lookT tiTab, kk, gTallyAddF1, gv, frs, lookN ftyOf, lookG sigTab, [], 49, [], [], lookL [], lookF fkTab, lookM mtTab, lookL [], lookH [(8, ⟨[0, 1, 2, 8, 9], [], [], [(0, [(6, .sc (.k (.i .i64))), (7, .sc (.k .b))])], []⟩)], lookH [(6, ⟨[0, 1, 2, 8, 11], [], [], [(0, [(9, .sc (.k (.i .i64))), (10, .sc (.k (.i .i64)))])], []⟩)], lookH [(3, ⟨[0, 1, 2, 8], [], [(9, .sc (.k (.i .i64))), (10, .sc (.k (.i .i64)))], [(2, [(9, .sc (.k (.i .i64)))])], []⟩)]⟩
noncomputable def dSlicesBinarySearchFuncApiAcceptInt (x target cmp : MV) : Option MV :=
 gL x fun x1 =>
 gI .i64 target fun target1 =>
 gR cmp fun cmp1 =>
 lenN x1 fun len =>
 bd (Loop (fun msA =>
 gC msA fun m msA1 =>
 gI .i64 m fun i =>
 gC msA1 fun m1 msA2 =>
 gI .i64 m1 fun j =>
 gN msA2 <|
 ifB (decide (i < j)) (
 chk (decide ((0 : Int) ≤ 1)) <|
 idx x1 (IntKind.wrap .i64 (Int.fdiv (IntKind.wrap .u64 (IntKind.wrap .i64 (i + j))) (2 ^ min (Int.toNat 1) (IntKind.bits .u64)))) fun y =>
 gA y fun cs =>
 gC cs fun m2 msA3 =>
 gI .i64 m2 fun By =>
 gC msA3 fun m3 msA4 =>
 gI .i64 m3 fun View =>
 gC msA4 fun m4 msA5 =>
 gS m4 fun Value =>
 gN msA5 <|
 gFn cmp1 fun fn cap =>
 chk (!gv fn) <|
 bd (preSlicesBinarySearchFuncApiAcceptInt fn ([.agg [.i .i64 By, .i .i64 View, .s Value], .i .i64 target1] ++ cap)) fun rA =>
 gI .i64 rA fun x2 =>
 bd (
 ifB (decide (x2 < 0)) (
 some (0, [.i .i64 (IntKind.wrap .i64 ((IntKind.wrap .i64 (Int.fdiv (IntKind.wrap .u64 (IntKind.wrap .i64 (i + j))) (2 ^ min (Int.toNat 1) (IntKind.bits .u64)))) + 1)), .i .i64 j])) (
 some (0, [.i .i64 i, .i .i64 (IntKind.wrap .i64 (Int.fdiv (IntKind.wrap .u64 (IntKind.wrap .i64 (i + j))) (2 ^ min (Int.toNat 1) (IntKind.bits .u64))))]))) fun p1 =>
 chk (Nat.beq p1.1 0) <|
 gC p1.2 fun m5 msA6 =>
 gI .i64 m5 fun i1 =>
 gC msA6 fun m6 msA7 =>
 gI .i64 m6 fun j1 =>
 gN msA7 <|
 some (.inl [.i .i64 i1, .i .i64 j1])) (
 some (.inr (2, [.i .i64 i])))) [.i .i64 0, .i .i64 (len : Int)]) fun p =>
 chk (Nat.beq p.1 2) <|
 gC p.2 fun m7 msA8 =>
 gI .i64 m7 fun i2 =>
 gN msA8 <|
 bd (
 ifB (decide (i2 < (len : Int))) (
 idx x1 i2 fun y1 =>
 gA y1 fun cs1 =>
 gC cs1 fun m8 msA9 =>
 gI .i64 m8 fun By1 =>
 gC msA9 fun m9 msA10 =>
 gI .i64 m9 fun View1 =>
 gC msA10 fun m10 msA11 =>
 gS m10 fun Value1 =>
 gN msA11 <|
 gFn cmp1 fun fn1 cap1 =>
 chk (!gv fn1) <|
 bd (preSlicesBinarySearchFuncApiAcceptInt fn1 ([.agg [.i .i64 By1, .i .i64 View1, .s Value1], .i .i64 target1] ++ cap1)) fun rA1 =>
 gI .i64 rA1 fun x3 =>
 some [.i .i64 i2, .b (decide (x3 = 0))]) (
 some [.i .i64 i2, .b false])) fun vs =>
 gC vs fun m11 msA12 =>
 gI .i64 m11 fun x4 =>
 gC msA12 fun m12 msA13 =>
 gB m12 fun x5 =>
 gN msA13 <|
 some (.tup [.i .i64 x4, .b x5])
theorem linkSlicesBinarySearchFuncApiAcceptInt (x target cmp : MV) : bodyK cxSlicesBinarySearchFuncApiAcceptInt [] none Try.f114 [x, target, cmp] = dSlicesBinarySearchFuncApiAcceptInt x target cmp := by kernel_rfl
noncomputable def gSlicesBinarySearchFuncApiAcceptInt : Nat → List MV → Option MV := addG 114 (lst3 dSlicesBinarySearchFuncApiAcceptInt) gTallyAddF1
theorem soundSlicesBinarySearchFuncApiAcceptInt : SoundG Try.prog cx gSlicesBinarySearchFuncApiAcceptInt :=
  soundTallyAddF1.fn (c' := cxSlicesBinarySearchFuncApiAcceptInt) (caps := []) ⟨rfl, rfl, rfl, rfl, rfl, rfl, rfl, rfl⟩ rfl tab_ok eq_ok fk_ok mt_ok mix_ok Try.func114 (by kernel_rfl) (fun _ => rfl) (lst3_of linkSlicesBinarySearchFuncApiAcceptInt)

noncomputable def cxTallyAdd : Ctx := ⟨lookT tiTab, kk, gSlicesBinarySearchFuncApiAcceptInt, gv, frs, lookN ftyOf, lookG sigTab, [], 49, [], [], lookL [], lookF fkTab, lookM mtTab, lookL [(4, [0, 1, 2, 3, 4, 5, 6, 7, 8, 9, 10, 11])], lookH [(4, ⟨[2, 3, 4, 6, 7], [], [], [(0, [(32, .sc (.k .b))])], [45, 46]⟩)], lookH [(8, ⟨[3, 4, 6], [], [], [(0, [(8, .sc (.own 36 72 false))])], [45, 46]⟩)], lookH []⟩
noncomputable def dTallyAdd (t a : MV) : Option MV :=
 gA t fun cs =>
 gC cs fun m msA =>
 gL m fun L =>
 gN msA <|
 gA a fun cs1 =>
 gC cs1 fun m1 msA1 =>
 gI .i64 m1 fun By =>
 gC msA1 fun m2 msA2 =>
 gI .i64 m2 fun View =>
 gC msA2 fun m3 msA3 =>
 gS m3 fun Value =>
 gN msA3 <|
 bd (dTallyMay (.agg [.i .i64 By, .i .i64 View, .s Value])) fun rA =>
 gB rA fun x =>
 ifB (!x) (
 some (.tup [.agg [.list L], .b false])) (
 bd (dSlicesBinarySearchFuncApiAcceptInt (.list L) (.i .i64 By) (.func 115 [])) fun rA1 =>
 gT rA1 fun vs =>
 gC vs fun m4 msA4 =>
 gI .i64 m4 fun x1 =>
 gC msA4 fun m5 msA5 =>
 gB m5 fun x2 =>
 gN msA5 <|
 bd (
 ifB x2 (
 idx L x1 fun y =>
 gA y fun cs2 =>
 gC cs2 fun m6 msA6 =>
 gI .i64 m6 fun By1 =>
 gC msA6 fun m7 msA7 =>
 gI .i64 m7 fun View1 =>
 gC msA7 fun m8 msA8 =>
 gS m8 fun Value1 =>
 gN msA8 <|
 some [.b (decide (View ≤ View1))]) (
 some [.b false])) fun vs1 =>
 gC vs1 fun m9 msA9 =>
 gB m9 fun x3 =>
 gN msA9 <|
 ifB x3 (
 some (.tup [.agg [.list L], .b false])) (
 bd (cloneF 3 32 [.list L]) fun rA2 =>
 gF rA2 fun xs =>
 bd (
 ifB x2 (
 idx xs x1 fun y1 =>
 gA y1 fun cs3 =>
 gC cs3 fun m10 msA10 =>
 gI .i64 m10 fun By2 =>
 gC msA10 fun m11 msA11 =>
 gI .i64 m11 fun View2 =>
 gC msA11 fun m12 msA12 =>
 gS m12 fun Value2 =>
 gN msA12 <|
 some (0, [.list (xs.set (Int.toNat x1) (.agg [.i .i64 By, .i .i64 View, .s Value]))])) (
 bd (insertF 32 [.fresh xs, .i .i64 x1, .fresh ([.agg [.i .i64 By, .i .i64 View, .s Value]] : List MV)]) fun rA3 =>
 gF rA3 fun xs1 =>
 some (0, [.list xs1]))) fun p =>
 chk (Nat.beq p.1 0) <|
 gC p.2 fun m13 msA13 =>
 gL m13 fun lA =>
 gN msA13 <|
 some (.tup [.agg [.list lA], .b true])))
theorem linkTallyAdd (t a : MV) : bodyK cxTallyAdd [] none Try.f94 [t, a] = dTallyAdd t a := by kernel_rfl
noncomputable def gTallyAdd : Nat → List MV → Option MV := addG 94 (lst2 dTallyAdd) gSlicesBinarySearchFuncApiAcceptInt
theorem soundTallyAdd : SoundG Try.prog cx gTallyAdd :=
  soundSlicesBinarySearchFuncApiAcceptInt.fn (c' := cxTallyAdd) (caps := []) ⟨rfl, rfl, rfl, rfl, rfl, rfl, rfl, rfl⟩ rfl tab_ok eq_ok fk_ok mt_ok mix_ok Try.func94 (by kernel_rfl) (fun _ => rfl) (lst2_of linkTallyAdd)

noncomputable def cxTallyBest : Ctx := ⟨lookT tiTab, kk, gTallyAdd, gv, frs, lookN ftyOf, lookG sigTab, [], 71, [], [], lookL [], lookF fkTab, lookM mtTab, lookL [(5, [0, 1, 2, 3, 4, 5, 6, 7, 8, 9, 10]), (17, [0, 1, 2, 3, 4, 5, 6])], lookH [(12, ⟨[1, 7, 10, 11, 14, 36, 37, 38], [], [], [(0, [(62, .sc (.k .b))])], []⟩)], lookH [(13, ⟨[1, 7, 14, 36, 37, 38], [], [], [(0, [(10, .box [.k (.i .i64), .k .s]), (11, .sc (.k .b))])], []⟩)], lookH [(9, ⟨[1, 7, 36, 37], [], [(10, .box [.k (.i .i64), .k .s]), (11, .sc (.k .b)), (38, .sc (.k (.i .i64)))], [(4, [(10, .box [.k (.i .i64), .k .s]), (11, .sc (.k .b))])], []⟩), (3, ⟨[1, 2, 17, 18], [], [(7, .mp ⟨true, [.i .i64, .s], false⟩), (19, .sc (.k (.i .i64)))], [(2, [(7, .mp ⟨true, [.i .i64, .s], false⟩)])], []⟩)]⟩
noncomputable def dTallyBest (a a1 : MV) : Option MV :=
 gA a fun cs =>
 gC cs fun m msA =>
 gL m fun L =>
 gN msA <|
 gI .i64 a1 fun a1N1 =>
 lenN L fun len =>
 bd (Loop (fun msA1 =>
 gC msA1 fun m1 msA2 =>
 gL m1 fun es =>
 gC msA2 fun m2 msA3 =>
 gI .i64 m2 fun x =>
 gN msA3 <|
 ifB (decide (x < (len : Int))) (
 idx L x fun y =>
 gA y fun cs1 =>
 gC cs1 fun m3 msA4 =>
 gI .i64 m3 fun By =>
 gC msA4 fun m4 msA5 =>
 gI .i64 m4 fun View =>
 gC msA5 fun m5 msA6 =>
 gS m5 fun Value =>
 gN msA6 <|
 chk (decide ((0 : Int) ≤ (midx es ([.i .i64 View, .s Value] : List MV) : Int) ∧ Int.toNat (midx es ([.i .i64 View, .s Value] : List MV) : Int) < (ment es ([.i .i64 View, .s Value] : List MV) (.i .i64 0)).length)) <|
 some (.inl [.list (mset (ment es ([.i .i64 View, .s Value] : List MV) (.i .i64 0)) (Int.toNat (midx es ([.i .i64 View, .s Value] : List MV) : Int)) (.i .i64 (IntKind.wrap .i64 ((mgetI es ([.i .i64 View, .s Value] : List MV)) + 1)))), .i .i64 (IntKind.wrap .i64 (x + 1))])) (
 some (.inr (2, [.list es])))) [.list ([] : List MV), .i .i64 0]) fun p =>
 chk (Nat.beq p.1 2) <|
 gC p.2 fun m6 msA7 =>
 gL m6 fun es1 =>
 gN msA7 <|
 lenN L fun len1 =>
 bd (Loop (fun msA8 =>
 gC msA8 fun m7 msA9 =>
 gI .i64 m7 fun x1 =>
 gC msA9 fun m8 msA10 =>
 gS m8 fun x2 =>
 gC msA10 fun m9 msA11 =>
 gB m9 fun x3 =>
 gC msA11 fun m10 msA12 =>
 gI .i64 m10 fun x4 =>
 gN msA12 <|
 ifB (decide (x4 < (len1 : Int))) (
 idx L x4 fun y1 =>
 gA y1 fun cs2 =>
 gC cs2 fun m11 msA13 =>
 gI .i64 m11 fun By1 =>
 gC msA13 fun m12 msA14 =>
 gI .i64 m12 fun View1 =>
 gC msA14 fun m13 msA15 =>
 gS m13 fun Value1 =>
 gN msA15 <|
 bd (
 ifB (decide ((1 : Int) ≤ a1N1)) (
 ifB (decide (a1N1 ≤ (mgetI es1 ([.i .i64 View1, .s Value1] : List MV)))) (
 some [.b (decide (x1 < View1))]) (
 some [.b false])) (
 some [.b false])) fun vs =>
 gC vs fun m14 msA16 =>
 gB m14 fun x5 =>
 gN msA16 <|
 bd (
 ifB x5 (
 some (0, [.i .i64 View1, .s Value1, .b true])) (
 some (0, [.i .i64 x1, .s x2, .b x3]))) fun p2 =>
 chk (Nat.beq p2.1 0) <|
 gC p2.2 fun m15 msA17 =>
 gI .i64 m15 fun x6 =>
 gC msA17 fun m16 msA18 =>
 gS m16 fun x7 =>
 gC msA18 fun m17 msA19 =>
 gB m17 fun x8 =>
 gN msA19 <|
 some (.inl [.i .i64 x6, .s x7, .b x8, .i .i64 (IntKind.wrap .i64 (x4 + 1))])) (
 some (.inr (4, [.i .i64 x1, .s x2, .b x3])))) [.i .i64 (-1), .s ([] : List UInt8), .b false, .i .i64 0]) fun p1 =>
 chk (Nat.beq p1.1 4) <|
 gC p1.2 fun m18 msA20 =>
 gI .i64 m18 fun x9 =>
 gC msA20 fun m19 msA21 =>
 gS m19 fun x10 =>
 gC msA21 fun m20 msA22 =>
 gB m20 fun x11 =>
 gN msA22 <|
 ifB (!x11) (
 some (.tup [.i .i64 0, .s ([] : List UInt8), .b false])) (
 some (.tup [.i .i64 x9, .s x10, .b true]))
theorem linkTallyBest (a a1 : MV) : bodyK cxTallyBest [] none Try.f108 [a, a1] = dTallyBest a a1 := by kernel_rfl
noncomputable def gTallyBest : Nat → List MV → Option MV := addG 108 (lst2 dTallyBest) gTallyAdd
theorem soundTallyBest : SoundG Try.prog cx gTallyBest :=
  soundTallyAdd.fn (c' := cxTallyBest) (caps := []) ⟨rfl, rfl, rfl, rfl, rfl, rfl, rfl, rfl⟩ rfl tab_ok eq_ok fk_ok mt_ok mix_ok Try.func108 (by kernel_rfl) (fun _ => rfl) (lst2_of linkTallyBest)

noncomputable def cxLearnerLearnerHears2 : Ctx := ⟨lookT tiTab, kk, gTallyBest, gv, frs, lookN ftyOf, lookG sigTab, [(1, 1002001)], 54, [], [], lookL [], lookF fkTab, lookM mtTab, lookL [(1, [0, 1, 2, 3, 4, 5, 6, 7, 8, 9, 10, 11, 12, 13, 14, 15, 16, 17, 18, 19]), (3, [0, 1, 2, 3, 4, 5, 6, 7, 8, 9, 10])], lookH [(1, ⟨[1, 3, 4, 6, 1002001], [], [], [(0, [(32, .sc (.k .b))])], []⟩)], lookH [], lookH []⟩
noncomputable def dLearnerLearnerHears2 (lA : MV) (t : List MV) (a : MV) (need : MV) : Option MV :=
 gA lA fun cs =>
 gC cs fun m msA =>
 gI .i64 m fun SF =>
 gC msA fun m1 msA1 =>
 gI .i64 m1 fun ST =>
 gC msA1 fun m2 msA2 =>
 gL m2 fun AcceptsL =>
 gC msA2 fun m3 msA3 =>
 gL m3 fun CommitsL =>
 gC msA3 fun m4 msA4 =>
 gL m4 fun ToldL =>
 gC msA4 fun m5 msA5 =>
 gB m5 fun Done =>
 gC msA5 fun m6 msA6 =>
 gS m6 fun Value =>
 gN msA6 <|
 gA a fun cs1 =>
 gC cs1 fun m7 msA7 =>
 gI .i64 m7 fun By =>
 gC msA7 fun m8 msA8 =>
 gI .i64 m8 fun View =>
 gC msA8 fun m9 msA9 =>
 gS m9 fun Value1 =>
 gN msA9 <|
 gI .i64 need fun need1 =>
 gC t fun m10 msA10 =>
 gI .i64 m10 fun SF1 =>
 gC msA10 fun m11 msA11 =>
 gI .i64 m11 fun ST1 =>
 gC msA11 fun m12 msA12 =>
 gL m12 fun AcceptsL1 =>
 gC msA12 fun m13 msA13 =>
 gL m13 fun CommitsL1 =>
 gC msA13 fun m14 msA14 =>
 gL m14 fun ToldL1 =>
 gC msA14 fun m15 msA15 =>
 gB m15 fun Done1 =>
 gC msA15 fun m16 msA16 =>
 gS m16 fun Value2 =>
 gN msA16 <|
 bd (
 ifB Done (
 some [.b true]) (
 ifB (decide (By < 0)) (
 some [.b true]) (
 bd (dSizeN (.agg [.i .i64 SF, .i .i64 ST])) fun rA =>
 gI .i64 rA fun x =>
 ifB (decide (x ≤ By)) (
 some [.b true]) (
 bd (dTallyMay (.agg [.i .i64 By, .i .i64 View, .s Value1])) fun rA1 =>
 gB rA1 fun x1 =>
 some [.b (!x1)])))) fun vs =>
 gC vs fun m17 msA17 =>
 gB m17 fun x2 =>
 gN msA17 <|
 ifB x2 (
 some (.wback (.tup [.b false, .s ([] : List UInt8)]) [.i .i64 SF1, .i .i64 ST1, .list AcceptsL1, .list CommitsL1, .list ToldL1, .b Done1, .s Value2])) (
 bd (dTallyAdd (.agg [.list AcceptsL1]) (.agg [.i .i64 By, .i .i64 View, .s Value1])) fun rA2 =>
 gT rA2 fun vs1 =>
 gC vs1 fun m18 msA18 =>
 gA m18 fun cs2 =>
 gC cs2 fun m19 msA19 =>
 gL m19 fun L =>
 gN msA19 <|
 gC msA18 fun m20 msA20 =>
 gB m20 fun x3 =>
 gN msA20 <|
 bd (dTallyBest (.agg [.list L]) (.i .i64 need1)) fun rA3 =>
 gT rA3 fun vs2 =>
 gC vs2 fun m21 msA21 =>
 gI .i64 m21 fun x4 =>
 gC msA21 fun m22 msA22 =>
 gS m22 fun x5 =>
 gC msA22 fun m23 msA23 =>
 gB m23 fun x6 =>
 gN msA23 <|
 some (.wback (.tup [.b x6, .s x5]) [.i .i64 SF1, .i .i64 ST1, .list L, .list CommitsL1, .list ToldL1, .b Done1, .s Value2]))
theorem linkLearnerLearnerHears2 (lA : MV) (t : List MV) (a : MV) (need : MV) : bodyC cxLearnerLearnerHears2 [] 1 sigK83 Try.f83 [lA, .cell (.func 2 t), a, need] = dLearnerLearnerHears2 lA t a need := by kernel_rfl

noncomputable def cxLearnerLearnerHears3 : Ctx := ⟨lookT tiTab, kk, gTallyBest, gv, frs, lookN ftyOf, lookG sigTab, [(1, 1003001)], 54, [], [], lookL [], lookF fkTab, lookM mtTab, lookL [(1, [0, 1, 2, 3, 4, 5, 6, 7, 8, 9, 10, 11, 12, 13, 14, 15, 16, 17, 18, 19]), (3, [0, 1, 2, 3, 4, 5, 6, 7, 8, 9, 10])], lookH [(1, ⟨[1, 3, 4, 6, 1003001], [], [], [(0, [(32, .sc (.k .b))])], []⟩)], lookH [], lookH []⟩
noncomputable def dLearnerLearnerHears3 (lA : MV) (t : List MV) (a : MV) (need : MV) : Option MV :=
 gA lA fun cs =>
 gC cs fun m msA =>
 gI .i64 m fun SF =>
 gC msA fun m1 msA1 =>
 gI .i64 m1 fun ST =>
 gC msA1 fun m2 msA2 =>
 gL m2 fun AcceptsL =>
 gC msA2 fun m3 msA3 =>
 gL m3 fun CommitsL =>
 gC msA3 fun m4 msA4 =>
 gL m4 fun ToldL =>
 gC msA4 fun m5 msA5 =>
 gB m5 fun Done =>
 gC msA5 fun m6 msA6 =>
 gS m6 fun Value =>
 gN msA6 <|
 gA a fun cs1 =>
 gC cs1 fun m7 msA7 =>
 gI .i64 m7 fun By =>
 gC msA7 fun m8 msA8 =>
 gI .i64 m8 fun View =>
 gC msA8 fun m9 msA9 =>
 gS m9 fun Value1 =>
 gN msA9 <|
 gI .i64 need fun need1 =>
 gC t fun m10 msA10 =>
 gI .i64 m10 fun SF1 =>
 gC msA10 fun m11 msA11 =>
 gI .i64 m11 fun ST1 =>
 gC msA11 fun m12 msA12 =>
 gL m12 fun AcceptsL1 =>
 gC msA12 fun m13 msA13 =>
 gL m13 fun CommitsL1 =>
 gC msA13 fun m14 msA14 =>
 gL m14 fun ToldL1 =>
 gC msA14 fun m15 msA15 =>
 gB m15 fun Done1 =>
 gC msA15 fun m16 msA16 =>
 gS m16 fun Value2 =>
 gN msA16 <|
 bd (
 ifB Done (
 some [.b true]) (
 ifB (decide (By < 0)) (
 some [.b true]) (
 bd (dSizeN (.agg [.i .i64 SF, .i .i64 ST])) fun rA =>
 gI .i64 rA fun x =>
 ifB (decide (x ≤ By)) (
 some [.b true]) (
 bd (dTallyMay (.agg [.i .i64 By, .i .i64 View, .s Value1])) fun rA1 =>
 gB rA1 fun x1 =>
 some [.b (!x1)])))) fun vs =>
 gC vs fun m17 msA17 =>
 gB m17 fun x2 =>
 gN msA17 <|
 ifB x2 (
 some (.wback (.tup [.b false, .s ([] : List UInt8)]) [.i .i64 SF1, .i .i64 ST1, .list AcceptsL1, .list CommitsL1, .list ToldL1, .b Done1, .s Value2])) (
 bd (dTallyAdd (.agg [.list CommitsL1]) (.agg [.i .i64 By, .i .i64 View, .s Value1])) fun rA2 =>
 gT rA2 fun vs1 =>
 gC vs1 fun m18 msA18 =>
 gA m18 fun cs2 =>
 gC cs2 fun m19 msA19 =>
 gL m19 fun L =>
 gN msA19 <|
 gC msA18 fun m20 msA20 =>
 gB m20 fun x3 =>
 gN msA20 <|
 bd (dTallyBest (.agg [.list L]) (.i .i64 need1)) fun rA3 =>
 gT rA3 fun vs2 =>
 gC vs2 fun m21 msA21 =>
 gI .i64 m21 fun x4 =>
 gC msA21 fun m22 msA22 =>
 gS m22 fun x5 =>
 gC msA22 fun m23 msA23 =>
 gB m23 fun x6 =>
 gN msA23 <|
 some (.wback (.tup [.b x6, .s x5]) [.i .i64 SF1, .i .i64 ST1, .list AcceptsL1, .list L, .list ToldL1, .b Done1, .s Value2]))
theorem linkLearnerLearnerHears3 (lA : MV) (t : List MV) (a : MV) (need : MV) : bodyC cxLearnerLearnerHears3 [] 1 sigK83 Try.f83 [lA, .cell (.func 3 t), a, need] = dLearnerLearnerHears3 lA t a need := by kernel_rfl

noncomputable def cxLearnerLearnerHears4 : Ctx := ⟨lookT tiTab, kk, gTallyBest, gv, frs, lookN ftyOf, lookG sigTab, [(1, 1004001)], 54, [], [], lookL [], lookF fkTab, lookM mtTab, lookL [(1, [0, 1, 2, 3, 4, 5, 6, 7, 8, 9, 10, 11, 12, 13, 14, 15, 16, 17, 18, 19]), (3, [0, 1, 2, 3, 4, 5, 6, 7, 8, 9, 10])], lookH [(1, ⟨[1, 3, 4, 6, 1004001], [], [], [(0, [(32, .sc (.k .b))])], []⟩)], lookH [], lookH []⟩
noncomputable def dLearnerLearnerHears4 (lA : MV) (t : List MV) (a : MV) (need : MV) : Option MV :=
 gA lA fun cs =>
 gC cs fun m msA =>
 gI .i64 m fun SF =>
 gC msA fun m1 msA1 =>
 gI .i64 m1 fun ST =>
 gC msA1 fun m2 msA2 =>
 gL m2 fun AcceptsL =>
 gC msA2 fun m3 msA3 =>
 gL m3 fun CommitsL =>
 gC msA3 fun m4 msA4 =>
 gL m4 fun ToldL =>
 gC msA4 fun m5 msA5 =>
 gB m5 fun Done =>
 gC msA5 fun m6 msA6 =>
 gS m6 fun Value =>
 gN msA6 <|
 gA a fun cs1 =>
 gC cs1 fun m7 msA7 =>
 gI .i64 m7 fun By =>
 gC msA7 fun m8 msA8 =>
 gI .i64 m8 fun View =>
 gC msA8 fun m9 msA9 =>
 gS m9 fun Value1 =>
 gN msA9 <|
 gI .i64 need fun need1 =>
 gC t fun m10 msA10 =>
 gI .i64 m10 fun SF1 =>
 gC msA10 fun m11 msA11 =>
 gI .i64 m11 fun ST1 =>
 gC msA11 fun m12 msA12 =>
 gL m12 fun AcceptsL1 =>
 gC msA12 fun m13 msA13 =>
 gL m13 fun CommitsL1 =>
 gC msA13 fun m14 msA14 =>
 gL m14 fun ToldL1 =>
 gC msA14 fun m15 msA15 =>
 gB m15 fun Done1 =>
 gC msA15 fun m16 msA16 =>
 gS m16 fun Value2 =>
 gN msA16 <|
 bd (
 ifB Done (
 some [.b true]) (
 ifB (decide (By < 0)) (
 some [.b true]) (
 bd (dSizeN (.agg [.i .i64 SF, .i .i64 ST])) fun rA =>
 gI .i64 rA fun x =>
 ifB (decide (x ≤ By)) (
 some [.b true]) (
 bd (dTallyMay (.agg [.i .i64 By, .i .i64 View, .s Value1])) fun rA1 =>
 gB rA1 fun x1 =>
 some [.b (!x1)])))) fun vs =>
 gC vs fun m17 msA17 =>
 gB m17 fun x2 =>
 gN msA17 <|
 ifB x2 (
 some (.wback (.tup [.b false, .s ([] : List UInt8)]) [.i .i64 SF1, .i .i64 ST1, .list AcceptsL1, .list CommitsL1, .list ToldL1, .b Done1, .s Value2])) (
 bd (dTallyAdd (.agg [.list ToldL1]) (.agg [.i .i64 By, .i .i64 View, .s Value1])) fun rA2 =>
 gT rA2 fun vs1 =>
 gC vs1 fun m18 msA18 =>
 gA m18 fun cs2 =>
 gC cs2 fun m19 msA19 =>
 gL m19 fun L =>
 gN msA19 <|
 gC msA18 fun m20 msA20 =>
 gB m20 fun x3 =>
 gN msA20 <|
 bd (dTallyBest (.agg [.list L]) (.i .i64 need1)) fun rA3 =>
 gT rA3 fun vs2 =>
 gC vs2 fun m21 msA21 =>
 gI .i64 m21 fun x4 =>
 gC msA21 fun m22 msA22 =>
 gS m22 fun x5 =>
 gC msA22 fun m23 msA23 =>
 gB m23 fun x6 =>
 gN msA23 <|
 some (.wback (.tup [.b x6, .s x5]) [.i .i64 SF1, .i .i64 ST1, .list AcceptsL1, .list CommitsL1, .list L, .b Done1, .s Value2]))
theorem linkLearnerLearnerHears4 (lA : MV) (t : List MV) (a : MV) (need : MV) : bodyC cxLearnerLearnerHears4 [] 1 sigK83 Try.f83 [lA, .cell (.func 4 t), a, need] = dLearnerLearnerHears4 lA t a need := by kernel_rfl
noncomputable abbrev FLearnerLearnerHears : List MV → Option MV := fun ms => match ms with | [a0, .cell (.func off a1), a2, a3] => (match Nat.beq off 2 with | true => dLearnerLearnerHears2 a0 a1 a2 a3 | false => (match Nat.beq off 3 with | true => dLearnerLearnerHears3 a0 a1 a2 a3 | false => (match Nat.beq off 4 with | true => dLearnerLearnerHears4 a0 a1 a2 a3 | false => none))) | _ => none
theorem FLearnerLearnerHears_of {ms : List MV} {r : MV} (h : FLearnerLearnerHears ms = some r) : ∃ c' : Ctx, Like cx c' ∧ c'.g = gTallyBest ∧ headC c' 83 Try.f83 [] = true ∧ bodyC c' [] 1 sigK83 Try.f83 ms = some r := by
  unfold FLearnerLearnerHears at h
  split at h
  · rename_i a0 off a1 a2 a3
    cases ho2 : Nat.beq off 2 with
    | true =>
      have := Nat.eq_of_beq_eq_true ho2
      subst this
      exact ⟨cxLearnerLearnerHears2, ⟨rfl, rfl, rfl, rfl, rfl, rfl, rfl, rfl⟩, rfl, by kernel_rfl, (linkLearnerLearnerHears2 _ _ _ _).trans h⟩
    | false =>
    rw [ho2] at h
    simp only at h
    cases ho3 : Nat.beq off 3 with
    | true =>
      have := Nat.eq_of_beq_eq_true ho3
      subst this
      exact ⟨cxLearnerLearnerHears3, ⟨rfl, rfl, rfl, rfl, rfl, rfl, rfl, rfl⟩, rfl, by kernel_rfl, (linkLearnerLearnerHears3 _ _ _ _).trans h⟩
    | false =>
    rw [ho3] at h
    simp only at h
    cases ho4 : Nat.beq off 4 with
    | true =>
      have := Nat.eq_of_beq_eq_true ho4
      subst this
      exact ⟨cxLearnerLearnerHears4, ⟨rfl, rfl, rfl, rfl, rfl, rfl, rfl, rfl⟩, rfl, by kernel_rfl, (linkLearnerLearnerHears4 _ _ _ _).trans h⟩
    | false =>
    rw [ho4] at h
    simp only at h
    cases h
  · cases h
noncomputable def gLearnerLearnerHears : Nat → List MV → Option MV := addG 83 FLearnerLearnerHears gTallyBest
theorem soundLearnerLearnerHears : SoundG Try.prog cx gLearnerLearnerHears :=
  soundTallyBest.fnC (pos := 1) (ks := sigK83) (caps := []) tab_ok eq_ok fk_ok mt_ok mix_ok Try.func83 (by kernel_rfl) (fun _ => rfl) FLearnerLearnerHears_of

noncomputable def cxLearnerTold : Ctx := ⟨lookT tiTab, kk, gLearnerLearnerHears, gv, frs, lookN ftyOf, lookG sigTab, [], 26, [], [], lookL [], lookF fkTab, lookM mtTab, lookL [(1, [0, 1, 2, 3, 4, 5, 6, 7, 8, 9, 10, 11, 12, 13])], lookH [], lookH [(3, ⟨[6, 8], [], [], [(0, [(3, .box [.k (.i .i64), .k (.i .i64), .k .l, .k .l, .k .l, .k .b, .k .s])])], []⟩)], lookH []⟩
noncomputable def dLearnerTold (lA byA value : MV) : Option MV :=
 gA lA fun cs =>
 gC cs fun m msA =>
 gI .i64 m fun SF =>
 gC msA fun m1 msA1 =>
 gI .i64 m1 fun ST =>
 gC msA1 fun m2 msA2 =>
 gL m2 fun AcceptsL =>
 gC msA2 fun m3 msA3 =>
 gL m3 fun CommitsL =>
 gC msA3 fun m4 msA4 =>
 gL m4 fun ToldL =>
 gC msA4 fun m5 msA5 =>
 gB m5 fun Done =>
 gC msA5 fun m6 msA6 =>
 gS m6 fun Value =>
 gN msA6 <|
 gI .i64 byA fun byA1 =>
 gS value fun value1 =>
 bd (dSizeWeak (.agg [.i .i64 SF, .i .i64 ST])) fun rA =>
 gI .i64 rA fun x =>
 bd (dLearnerLearnerHears4 (.agg [.i .i64 SF, .i .i64 ST, .list AcceptsL, .list CommitsL, .list ToldL, .b Done, .s Value]) [.i .i64 SF, .i .i64 ST, .list AcceptsL, .list CommitsL, .list ToldL, .b Done, .s Value] (.agg [.i .i64 byA1, .i .i64 0, .s value1]) (.i .i64 x)) fun rA1 =>
 gW rA1 fun x1 ls =>
 gC ls fun m7 msA7 =>
 gI .i64 m7 fun SF1 =>
 gC msA7 fun m8 msA8 =>
 gI .i64 m8 fun ST1 =>
 gC msA8 fun m9 msA9 =>
 gL m9 fun AcceptsL1 =>
 gC msA9 fun m10 msA10 =>
 gL m10 fun CommitsL1 =>
 gC msA10 fun m11 msA11 =>
 gL m11 fun ToldL1 =>
 gC msA11 fun m12 msA12 =>
 gB m12 fun Done1 =>
 gC msA12 fun m13 msA13 =>
 gS m13 fun Value1 =>
 gN msA13 <|
 gT x1 fun vs =>
 gC vs fun m14 msA14 =>
 gB m14 fun x2 =>
 gC msA14 fun m15 msA15 =>
 gS m15 fun x3 =>
 gN msA15 <|
 bd (
 ifB x2 (
 some (0, [.i .i64 SF1, .i .i64 ST1, .list AcceptsL1, .list CommitsL1, .list ToldL1, .b true, .s x3])) (
 some (0, [.i .i64 SF1, .i .i64 ST1, .list AcceptsL1, .list CommitsL1, .list ToldL1, .b Done1, .s Value1]))) fun p =>
 chk (Nat.beq p.1 0) <|
 gC p.2 fun m16 msA16 =>
 gI .i64 m16 fun lA1 =>
 gC msA16 fun m17 msA17 =>
 gI .i64 m17 fun lA2 =>
 gC msA17 fun m18 msA18 =>
 gL m18 fun lA3 =>
 gC msA18 fun m19 msA19 =>
 gL m19 fun lA4 =>
 gC msA19 fun m20 msA20 =>
 gL m20 fun lA5 =>
 gC msA20 fun m21 msA21 =>
 gB m21 fun lA6 =>
 gC msA21 fun m22 msA22 =>
 gS m22 fun lA7 =>
 gN msA22 <|
 some (.agg [.i .i64 lA1, .i .i64 lA2, .list lA3, .list lA4, .list lA5, .b lA6, .s lA7])
theorem linkLearnerTold (lA byA value : MV) : bodyK cxLearnerTold [] none Try.f43 [lA, byA, value] = dLearnerTold lA byA value := by kernel_rfl
noncomputable def gLearnerTold : Nat → List MV → Option MV := addG 43 (lst3 dLearnerTold) gLearnerLearnerHears
theorem soundLearnerTold : SoundG Try.prog cx gLearnerTold :=
  soundLearnerLearnerHears.fn (c' := cxLearnerTold) (caps := []) ⟨rfl, rfl, rfl, rfl, rfl, rfl, rfl, rfl⟩ rfl tab_ok eq_ok fk_ok mt_ok mix_ok Try.func43 (by kernel_rfl) (fun _ => rfl) (lst3_of linkLearnerTold)

noncomputable def cxL22Alive : Ctx := ⟨lookT tiTab, kk, gLearnerTold, gv, frs, lookN ftyOf, lookG sigTab, [], 36, [], [], lookL [], lookF fkTab, lookM mtTab, lookL [], lookH [(4, ⟨[1, 2, 3], [], [], [(0, [(0, .sc (.k .b))])], []⟩)], lookH [], lookH []⟩
noncomputable def dL22Alive : Option MV :=
 bd (dLearnerNew (.agg [.i .i64 1, .i .i64 0])) fun rA =>
 gT rA fun vs =>
 gC vs fun m msA =>
 gA m fun cs =>
 gC cs fun m1 msA1 =>
 gI .i64 m1 fun SF =>
 gC msA1 fun m2 msA2 =>
 gI .i64 m2 fun ST =>
 gC msA2 fun m3 msA3 =>
 gL m3 fun AcceptsL =>
 gC msA3 fun m4 msA4 =>
 gL m4 fun CommitsL =>
 gC msA4 fun m5 msA5 =>
 gL m5 fun ToldL =>
 gC msA5 fun m6 msA6 =>
 gB m6 fun Done =>
 gC msA6 fun m7 msA7 =>
 gS m7 fun Value =>
 gN msA7 <|
 gC msA fun m8 msA8 =>
 gI .i64 m8 fun x =>
 gN msA8 <|
 bd (dLearnerTold (.agg [.i .i64 SF, .i .i64 ST, .list AcceptsL, .list CommitsL, .list ToldL, .b Done, .s Value]) (.i .i64 0) (.s ([120] : List UInt8))) fun rA1 =>
 gA rA1 fun cs1 =>
 gC cs1 fun m9 msA9 =>
 gI .i64 m9 fun SF1 =>
 gC msA9 fun m10 msA10 =>
 gI .i64 m10 fun ST1 =>
 gC msA10 fun m11 msA11 =>
 gL m11 fun AcceptsL1 =>
 gC msA11 fun m12 msA12 =>
 gL m12 fun CommitsL1 =>
 gC msA12 fun m13 msA13 =>
 gL m13 fun ToldL1 =>
 gC msA13 fun m14 msA14 =>
 gB m14 fun Done1 =>
 gC msA14 fun m15 msA15 =>
 gS m15 fun Value1 =>
 gN msA15 <|
 bd (dLearnerTold (.agg [.i .i64 SF1, .i .i64 ST1, .list AcceptsL1, .list CommitsL1, .list ToldL1, .b Done1, .s Value1]) (.i .i64 3) (.s ([120] : List UInt8))) fun rA2 =>
 gA rA2 fun cs2 =>
 gC cs2 fun m16 msA16 =>
 gI .i64 m16 fun SF2 =>
 gC msA16 fun m17 msA17 =>
 gI .i64 m17 fun ST2 =>
 gC msA17 fun m18 msA18 =>
 gL m18 fun AcceptsL2 =>
 gC msA18 fun m19 msA19 =>
 gL m19 fun CommitsL2 =>
 gC msA19 fun m20 msA20 =>
 gL m20 fun ToldL2 =>
 gC msA20 fun m21 msA21 =>
 gB m21 fun Done2 =>
 gC msA21 fun m22 msA22 =>
 gS m22 fun Value2 =>
 gN msA22 <|
 bd (
 ifB (decide (x = 0)) (
 ifB (!Done1) (
 ifB Done2 (
 ifB (decide (Value2 = ([120] : List UInt8))) (
 lenN ToldL2 fun len =>
 some [.b (decide ((len : Int) = 2))]) (
 some [.b false])) (
 some [.b false])) (
 some [.b false])) (
 some [.b false])) fun vs1 =>
 gC vs1 fun m23 msA23 =>
 gB m23 fun x1 =>
 gN msA23 <|
 some (.b x1)
theorem linkL22Alive : bodyK cxL22Alive [] none Try.f25 [] = dL22Alive  := by kernel_rfl
noncomputable def gL22Alive : Nat → List MV → Option MV := addG 25 (lst0 dL22Alive) gLearnerTold
theorem soundL22Alive : SoundG Try.prog cx gL22Alive :=
  soundLearnerTold.fn (c' := cxL22Alive) (caps := []) ⟨rfl, rfl, rfl, rfl, rfl, rfl, rfl, rfl⟩ rfl tab_ok eq_ok fk_ok mt_ok mix_ok Try.func25 (by kernel_rfl) (fun _ => rfl) (lst0_of linkL22Alive)

noncomputable def cxSizeFast : Ctx := ⟨lookT tiTab, kk, gL22Alive, gv, frs, lookN ftyOf, lookG sigTab, [], 5, [], [], lookL [], lookF fkTab, lookM mtTab, lookL [], lookH [], lookH [], lookH []⟩
noncomputable def dSizeFast (sA : MV) : Option MV :=
 gA sA fun cs =>
 gC cs fun m msA =>
 gI .i64 m fun F =>
 gC msA fun m1 msA1 =>
 gI .i64 m1 fun T =>
 gN msA1 <|
 bd (dSizeSizeOf (.agg [.i .i64 F, .i .i64 T]) (.raw (.complex .f64 4613937818241073152 4607182418800017408))) fun rA =>
 gI .i64 rA fun x =>
 some (.i .i64 x)
theorem linkSizeFast (sA : MV) : bodyK cxSizeFast [] none Try.f47 [sA] = dSizeFast sA := by kernel_rfl
noncomputable def gSizeFast : Nat → List MV → Option MV := addG 47 (lst1 dSizeFast) gL22Alive
theorem soundSizeFast : SoundG Try.prog cx gSizeFast :=
  soundL22Alive.fn (c' := cxSizeFast) (caps := []) ⟨rfl, rfl, rfl, rfl, rfl, rfl, rfl, rfl⟩ rfl tab_ok eq_ok fk_ok mt_ok mix_ok Try.func47 (by kernel_rfl) (fun _ => rfl) (lst1_of linkSizeFast)

noncomputable def cxLearnerAccepted : Ctx := ⟨lookT tiTab, kk, gSizeFast, gv, frs, lookN ftyOf, lookG sigTab, [], 22, [], [], lookL [], lookF fkTab, lookM mtTab, lookL [(1, [0, 1, 2, 3, 4, 5, 6, 7, 8, 9, 10, 11])], lookH [], lookH [(3, ⟨[4, 6], [], [], [(0, [(2, .box [.k (.i .i64), .k (.i .i64), .k .l, .k .l, .k .l, .k .b, .k .s])])], []⟩)], lookH []⟩
noncomputable def dLearnerAccepted (lA a : MV) : Option MV :=
 gA lA fun cs =>
 gC cs fun m msA =>
 gI .i64 m fun SF =>
 gC msA fun m1 msA1 =>
 gI .i64 m1 fun ST =>
 gC msA1 fun m2 msA2 =>
 gL m2 fun AcceptsL =>
 gC msA2 fun m3 msA3 =>
 gL m3 fun CommitsL =>
 gC msA3 fun m4 msA4 =>
 gL m4 fun ToldL =>
 gC msA4 fun m5 msA5 =>
 gB m5 fun Done =>
 gC msA5 fun m6 msA6 =>
 gS m6 fun Value =>
 gN msA6 <|
 gA a fun cs1 =>
 gC cs1 fun m7 msA7 =>
 gI .i64 m7 fun By =>
 gC msA7 fun m8 msA8 =>
 gI .i64 m8 fun View =>
 gC msA8 fun m9 msA9 =>
 gS m9 fun Value1 =>
 gN msA9 <|
 bd (dSizeFast (.agg [.i .i64 SF, .i .i64 ST])) fun rA =>
 gI .i64 rA fun x =>
 bd (dLearnerLearnerHears2 (.agg [.i .i64 SF, .i .i64 ST, .list AcceptsL, .list CommitsL, .list ToldL, .b Done, .s Value]) [.i .i64 SF, .i .i64 ST, .list AcceptsL, .list CommitsL, .list ToldL, .b Done, .s Value] (.agg [.i .i64 By, .i .i64 View, .s Value1]) (.i .i64 x)) fun rA1 =>
 gW rA1 fun x1 ls =>
 gC ls fun m10 msA10 =>
 gI .i64 m10 fun SF1 =>
 gC msA10 fun m11 msA11 =>
 gI .i64 m11 fun ST1 =>
 gC msA11 fun m12 msA12 =>
 gL m12 fun AcceptsL1 =>
 gC msA12 fun m13 msA13 =>
 gL m13 fun CommitsL1 =>
 gC msA13 fun m14 msA14 =>
 gL m14 fun ToldL1 =>
 gC msA14 fun m15 msA15 =>
 gB m15 fun Done1 =>
 gC msA15 fun m16 msA16 =>
 gS m16 fun Value2 =>
 gN msA16 <|
 gT x1 fun vs =>
 gC vs fun m17 msA17 =>
 gB m17 fun x2 =>
 gC msA17 fun m18 msA18 =>
 gS m18 fun x3 =>
 gN msA18 <|
 bd (
 ifB x2 (
 some (0, [.i .i64 SF1, .i .i64 ST1, .list AcceptsL1, .list CommitsL1, .list ToldL1, .b true, .s x3])) (
 some (0, [.i .i64 SF1, .i .i64 ST1, .list AcceptsL1, .list CommitsL1, .list ToldL1, .b Done1, .s Value2]))) fun p =>
 chk (Nat.beq p.1 0) <|
 gC p.2 fun m19 msA19 =>
 gI .i64 m19 fun lA1 =>
 gC msA19 fun m20 msA20 =>
 gI .i64 m20 fun lA2 =>
 gC msA20 fun m21 msA21 =>
 gL m21 fun lA3 =>
 gC msA21 fun m22 msA22 =>
 gL m22 fun lA4 =>
 gC msA22 fun m23 msA23 =>
 gL m23 fun lA5 =>
 gC msA23 fun m24 msA24 =>
 gB m24 fun lA6 =>
 gC msA24 fun m25 msA25 =>
 gS m25 fun lA7 =>
 gN msA25 <|
 some (.agg [.i .i64 lA1, .i .i64 lA2, .list lA3, .list lA4, .list lA5, .b lA6, .s lA7])
theorem linkLearnerAccepted (lA a : MV) : bodyK cxLearnerAccepted [] none Try.f39 [lA, a] = dLearnerAccepted lA a := by kernel_rfl
noncomputable def gLearnerAccepted : Nat → List MV → Option MV := addG 39 (lst2 dLearnerAccepted) gSizeFast
theorem soundLearnerAccepted : SoundG Try.prog cx gLearnerAccepted :=
  soundSizeFast.fn (c' := cxLearnerAccepted) (caps := []) ⟨rfl, rfl, rfl, rfl, rfl, rfl, rfl, rfl⟩ rfl tab_ok eq_ok fk_ok mt_ok mix_ok Try.func39 (by kernel_rfl) (fun _ => rfl) (lst2_of linkLearnerAccepted)

noncomputable def cxLearnerCommitted : Ctx := ⟨lookT tiTab, kk, gLearnerAccepted, gv, frs, lookN ftyOf, lookG sigTab, [], 42, [], [], lookL [], lookF fkTab, lookM mtTab, lookL [(4, [0, 1, 2, 3, 4, 5, 6, 7, 8, 9, 10, 11, 12, 13, 14])], lookH [], lookH [(6, ⟨[6, 11], [], [], [(0, [(3, .box [.k (.i .i64), .k (.i .i64), .k .l, .k .l, .k .l, .k .b, .k .s])])], []⟩)], lookH []⟩
noncomputable def dLearnerCommitted (lA byA p : MV) : Option MV :=
 gA lA fun cs =>
 gC cs fun m msA =>
 gI .i64 m fun SF =>
 gC msA fun m1 msA1 =>
 gI .i64 m1 fun ST =>
 gC msA1 fun m2 msA2 =>
 gL m2 fun AcceptsL =>
 gC msA2 fun m3 msA3 =>
 gL m3 fun CommitsL =>
 gC msA3 fun m4 msA4 =>
 gL m4 fun ToldL =>
 gC msA4 fun m5 msA5 =>
 gB m5 fun Done =>
 gC msA5 fun m6 msA6 =>
 gS m6 fun Value =>
 gN msA6 <|
 gI .i64 byA fun byA1 =>
 gL p fun p1 =>
 bd (dProofRight (.agg [.i .i64 SF, .i .i64 ST]) (.list p1)) fun rA =>
 gB rA fun x =>
 ifB (!x) (
 some (.agg [.i .i64 SF, .i .i64 ST, .list AcceptsL, .list CommitsL, .list ToldL, .b Done, .s Value])) (
 bd (dProofOf (.list p1)) fun rA1 =>
 gT rA1 fun vs =>
 gC vs fun m7 msA7 =>
 gI .i64 m7 fun x1 =>
 gC msA7 fun m8 msA8 =>
 gS m8 fun x2 =>
 gC msA8 fun m9 msA9 =>
 gB m9 fun x3 =>
 gN msA9 <|
 bd (dSizeProof (.agg [.i .i64 SF, .i .i64 ST])) fun rA2 =>
 gI .i64 rA2 fun x4 =>
 bd (dLearnerLearnerHears3 (.agg [.i .i64 SF, .i .i64 ST, .list AcceptsL, .list CommitsL, .list ToldL, .b Done, .s Value]) [.i .i64 SF, .i .i64 ST, .list AcceptsL, .list CommitsL, .list ToldL, .b Done, .s Value] (.agg [.i .i64 byA1, .i .i64 x1, .s x2]) (.i .i64 x4)) fun rA3 =>
 gW rA3 fun x5 ls =>
 gC ls fun m10 msA10 =>
 gI .i64 m10 fun SF1 =>
 gC msA10 fun m11 msA11 =>
 gI .i64 m11 fun ST1 =>
 gC msA11 fun m12 msA12 =>
 gL m12 fun AcceptsL1 =>
 gC msA12 fun m13 msA13 =>
 gL m13 fun CommitsL1 =>
 gC msA13 fun m14 msA14 =>
 gL m14 fun ToldL1 =>
 gC msA14 fun m15 msA15 =>
 gB m15 fun Done1 =>
 gC msA15 fun m16 msA16 =>
 gS m16 fun Value1 =>
 gN msA16 <|
 gT x5 fun vs1 =>
 gC vs1 fun m17 msA17 =>
 gB m17 fun x6 =>
 gC msA17 fun m18 msA18 =>
 gS m18 fun x7 =>
 gN msA18 <|
 bd (
 ifB x6 (
 some (0, [.i .i64 SF1, .i .i64 ST1, .list AcceptsL1, .list CommitsL1, .list ToldL1, .b true, .s x7])) (
 some (0, [.i .i64 SF1, .i .i64 ST1, .list AcceptsL1, .list CommitsL1, .list ToldL1, .b Done1, .s Value1]))) fun p2 =>
 chk (Nat.beq p2.1 0) <|
 gC p2.2 fun m19 msA19 =>
 gI .i64 m19 fun lA1 =>
 gC msA19 fun m20 msA20 =>
 gI .i64 m20 fun lA2 =>
 gC msA20 fun m21 msA21 =>
 gL m21 fun lA3 =>
 gC msA21 fun m22 msA22 =>
 gL m22 fun lA4 =>
 gC msA22 fun m23 msA23 =>
 gL m23 fun lA5 =>
 gC msA23 fun m24 msA24 =>
 gB m24 fun lA6 =>
 gC msA24 fun m25 msA25 =>
 gS m25 fun lA7 =>
 gN msA25 <|
 some (.agg [.i .i64 lA1, .i .i64 lA2, .list lA3, .list lA4, .list lA5, .b lA6, .s lA7]))
theorem linkLearnerCommitted (lA byA p : MV) : bodyK cxLearnerCommitted [] none Try.f41 [lA, byA, p] = dLearnerCommitted lA byA p := by kernel_rfl
noncomputable def gLearnerCommitted : Nat → List MV → Option MV := addG 41 (lst3 dLearnerCommitted) gLearnerAccepted
theorem soundLearnerCommitted : SoundG Try.prog cx gLearnerCommitted :=
  soundLearnerAccepted.fn (c' := cxLearnerCommitted) (caps := []) ⟨rfl, rfl, rfl, rfl, rfl, rfl, rfl, rfl⟩ rfl tab_ok eq_ok fk_ok mt_ok mix_ok Try.func41 (by kernel_rfl) (fun _ => rfl) (lst3_of linkLearnerCommitted)

noncomputable def cxL22LearnerLearns : Ctx := ⟨lookT tiTab, kk, gLearnerCommitted, gv, frs, lookN ftyOf, lookG sigTab, [], 162, [70], [], lookL [(20, [7])], lookF fkTab, lookM mtTab, lookL [(4, [0, 2, 3, 4, 1, 5, 0, 1, 2, 3, 4, 5, 4, 1]), (15, [0, 1, 2, 3, 4, 5, 6, 7, 8, 9, 10, 11, 12, 13, 14, 15, 16, 17, 18, 19, 20, 21, 22, 23, 24])], lookH [(20, ⟨[5, 7, 9, 10], [], [], [(0, [(6, .sc (.k .b))])], [52, 70]⟩), (15, ⟨[1, 3, 5, 7, 9, 10, 11, 12, 14, 15], [52], [], [(0, [(110, .sc (.k .b))])], [52, 70]⟩), (12, ⟨[1, 3, 5, 7, 9, 10, 11, 12, 14], [52], [], [(0, [(78, .sc (.k .b))])], [52, 70]⟩), (8, ⟨[1, 3, 5, 7, 9, 10, 11, 12, 13], [52], [], [(0, [(60, .sc (.k .b))])], [52, 70]⟩), (2, ⟨[1, 3, 5, 7, 8], [], [], [(0, [(46, .sc (.k .b))])], [52, 70]⟩)], lookH [], lookH [(12, ⟨[1, 3, 5, 11, 12], [52], [(7, .box [.k (.i .i64), .k (.i .i64), .k .l, .k .l, .k .l, .k .b, .k .s]), (9, .box [.k (.i .i64), .k (.i .i64), .k .l, .k .l, .k .l, .k .b, .k .s]), (10, .box [.k (.i .i64), .k (.i .i64), .k .l, .k .l, .k .l, .k .b, .k .s]), (14, .sc (.k (.i .i64)))], [(1, [(6, .sc (.k .b))]), (4, [(7, .box [.k (.i .i64), .k (.i .i64), .k .l, .k .l, .k .l, .k .b, .k .s]), (9, .box [.k (.i .i64), .k (.i .i64), .k .l, .k .l, .k .l, .k .b, .k .s]), (10, .box [.k (.i .i64), .k (.i .i64), .k .l, .k .l, .k .l, .k .b, .k .s])])], [52, 70]⟩), (8, ⟨[1, 3, 5, 7, 9, 10, 11], [], [(12, .sc (.own 52 72 true)), (13, .sc (.k (.i .i64)))], [(2, [(12, .sc (.own 52 72 true))])], [52, 70]⟩)]⟩
noncomputable def dL22LearnerLearns (a a1 a2 : MV) : Option MV :=
 gA a fun cs =>
 gC cs fun m msA =>
 gI .i64 m fun F =>
 gC msA fun m1 msA1 =>
 gI .i64 m1 fun T =>
 gN msA1 <|
 gI .i64 a1 fun a1N1 =>
 gA a2 fun cs1 =>
 gC cs1 fun m2 msA2 =>
 gI .i64 m2 fun By =>
 gC msA2 fun m3 msA3 =>
 gI .i64 m3 fun View =>
 gC msA3 fun m4 msA4 =>
 gS m4 fun Value =>
 gN msA4 <|
 bd (dLearnerNew (.agg [.i .i64 F, .i .i64 T])) fun rA =>
 gT rA fun vs =>
 gC vs fun m5 msA5 =>
 gA m5 fun cs2 =>
 gC cs2 fun m6 msA6 =>
 gI .i64 m6 fun SF =>
 gC msA6 fun m7 msA7 =>
 gI .i64 m7 fun ST =>
 gC msA7 fun m8 msA8 =>
 gL m8 fun AcceptsL =>
 gC msA8 fun m9 msA9 =>
 gL m9 fun CommitsL =>
 gC msA9 fun m10 msA10 =>
 gL m10 fun ToldL =>
 gC msA10 fun m11 msA11 =>
 gB m11 fun Done =>
 gC msA11 fun m12 msA12 =>
 gS m12 fun Value1 =>
 gN msA12 <|
 gC msA5 fun m13 msA13 =>
 gI .i64 m13 fun x =>
 gN msA13 <|
 bd (
 ifB (!decide (x = 0)) (
 some [.b true]) (
 ifB (decide (View < 0)) (
 some [.b true]) (
 ifB (decide ((100000 : Int) < View)) (
 some [.b true]) (
 ifB (decide ((6000 : Int) < (Value.length : Int))) (
 some [.b true]) (
 ifB (decide (a1N1 < 0)) (
 some [.b true]) (
 some [.b (decide ((1000000 : Int) < a1N1))])))))) fun vs1 =>
 gC vs1 fun m14 msA14 =>
 gB m14 fun x1 =>
 gN msA14 <|
 ifB x1 (
 bd (dL22Alive) fun rA1 =>
 gB rA1 fun x2 =>
 some (.b x2)) (
 both (
 bd (dSizeN (.agg [.i .i64 F, .i .i64 T])) fun rA2 =>
 gI .i64 rA2 fun x3 =>
 bd (Loop (fun msA15 =>
 gC msA15 fun m15 msA16 =>
 gL m15 fun xs =>
 gC msA16 fun m16 msA17 =>
 gI .i64 m16 fun x4 =>
 gN msA17 <|
 bd (
 bd (dSizeProof (.agg [.i .i64 F, .i .i64 T])) fun rA3 =>
 gI .i64 rA3 fun x5 =>
 ifB (decide (x4 < x5)) (
 some [.b (decide (x4 < 64))]) (
 some [.b false])) fun vs2 =>
 gC vs2 fun m17 msA18 =>
 gB m17 fun x6 =>
 gN msA18 <|
 ifB x6 (
 lenN xs fun len =>
 lenN ([.agg [.i .i64 x4, .i .i64 View, .s Value]] : List MV) fun len1 =>
 chk (decide ((len + len1) * 32 ≤ 2 ^ 46)) <|
 some (.inl [.list (xs ++ ([.agg [.i .i64 x4, .i .i64 View, .s Value]] : List MV)), .i .i64 (IntKind.wrap .i64 (x4 + 1))])) (
 some (.inr (2, [.list xs])))) [.list ([] : List MV), .i .i64 0]) fun p =>
 chk (Nat.beq p.1 2) <|
 gC p.2 fun m18 msA19 =>
 gL m18 fun xs1 =>
 gN msA19 <|
 bd (Loop (fun msA20 =>
 gC msA20 fun m19 msA21 =>
 gI .i64 m19 fun x7 =>
 gC msA21 fun m20 msA22 =>
 gI .i64 m20 fun x8 =>
 gC msA22 fun m21 msA23 =>
 gL m21 fun x9 =>
 gC msA23 fun m22 msA24 =>
 gL m22 fun x10 =>
 gC msA24 fun m23 msA25 =>
 gL m23 fun x11 =>
 gC msA25 fun m24 msA26 =>
 gB m24 fun x12 =>
 gC msA26 fun m25 msA27 =>
 gS m25 fun x13 =>
 gC msA27 fun m26 msA28 =>
 gI .i64 m26 fun x14 =>
 gC msA28 fun m27 msA29 =>
 gI .i64 m27 fun x15 =>
 gC msA29 fun m28 msA30 =>
 gL m28 fun x16 =>
 gC msA30 fun m29 msA31 =>
 gL m29 fun x17 =>
 gC msA31 fun m30 msA32 =>
 gL m30 fun x18 =>
 gC msA32 fun m31 msA33 =>
 gB m31 fun x19 =>
 gC msA33 fun m32 msA34 =>
 gS m32 fun x20 =>
 gC msA34 fun m33 msA35 =>
 gI .i64 m33 fun x21 =>
 gC msA35 fun m34 msA36 =>
 gI .i64 m34 fun x22 =>
 gC msA36 fun m35 msA37 =>
 gL m35 fun x23 =>
 gC msA37 fun m36 msA38 =>
 gL m36 fun x24 =>
 gC msA38 fun m37 msA39 =>
 gL m37 fun x25 =>
 gC msA39 fun m38 msA40 =>
 gB m38 fun x26 =>
 gC msA40 fun m39 msA41 =>
 gS m39 fun x27 =>
 gC msA41 fun m40 msA42 =>
 gI .i64 m40 fun x28 =>
 gN msA42 <|
 bd (
 ifB (decide (x28 < x3)) (
 some [.b (decide (x28 < 64))]) (
 some [.b false])) fun vs3 =>
 gC vs3 fun m41 msA43 =>
 gB m41 fun x29 =>
 gN msA43 <|
 ifB x29 (
 chk (!decide (x3 = 0)) <|
 bd (
 bd (dSizeFast (.agg [.i .i64 F, .i .i64 T])) fun rA4 =>
 gI .i64 rA4 fun x30 =>
 ifB (!(decide (x12 = (decide (x30 ≤ x28))))) (
 some [.b true]) (
 bd (dSizeProof (.agg [.i .i64 F, .i .i64 T])) fun rA5 =>
 gI .i64 rA5 fun x31 =>
 ifB (!(decide (x19 = (decide (x31 ≤ x28))))) (
 some [.b true]) (
 bd (dSizeWeak (.agg [.i .i64 F, .i .i64 T])) fun rA6 =>
 gI .i64 rA6 fun x32 =>
 some [.b (!(decide (x26 = (decide (x32 ≤ x28)))))]))) fun vs4 =>
 gC vs4 fun m42 msA44 =>
 gB m42 fun x33 =>
 gN msA44 <|
 ifB x33 (
 some (.inr (1, [.b false]))) (
 bd (dLearnerAccepted (.agg [.i .i64 x7, .i .i64 x8, .list x9, .list x10, .list x11, .b x12, .s x13]) (.agg [.i .i64 (Int.tmod (IntKind.wrap .i64 (a1N1 + x28)) x3), .i .i64 View, .s Value])) fun rA7 =>
 gA rA7 fun cs3 =>
 gC cs3 fun m43 msA45 =>
 gI .i64 m43 fun SF1 =>
 gC msA45 fun m44 msA46 =>
 gI .i64 m44 fun ST1 =>
 gC msA46 fun m45 msA47 =>
 gL m45 fun AcceptsL1 =>
 gC msA47 fun m46 msA48 =>
 gL m46 fun CommitsL1 =>
 gC msA48 fun m47 msA49 =>
 gL m47 fun ToldL1 =>
 gC msA49 fun m48 msA50 =>
 gB m48 fun Done1 =>
 gC msA50 fun m49 msA51 =>
 gS m49 fun Value2 =>
 gN msA51 <|
 bd (dLearnerCommitted (.agg [.i .i64 x14, .i .i64 x15, .list x16, .list x17, .list x18, .b x19, .s x20]) (.i .i64 (Int.tmod (IntKind.wrap .i64 (a1N1 + x28)) x3)) (.list xs1)) fun rA8 =>
 gA rA8 fun cs4 =>
 gC cs4 fun m50 msA52 =>
 gI .i64 m50 fun SF2 =>
 gC msA52 fun m51 msA53 =>
 gI .i64 m51 fun ST2 =>
 gC msA53 fun m52 msA54 =>
 gL m52 fun AcceptsL2 =>
 gC msA54 fun m53 msA55 =>
 gL m53 fun CommitsL2 =>
 gC msA55 fun m54 msA56 =>
 gL m54 fun ToldL2 =>
 gC msA56 fun m55 msA57 =>
 gB m55 fun Done2 =>
 gC msA57 fun m56 msA58 =>
 gS m56 fun Value3 =>
 gN msA58 <|
 bd (dLearnerTold (.agg [.i .i64 x21, .i .i64 x22, .list x23, .list x24, .list x25, .b x26, .s x27]) (.i .i64 (Int.tmod (IntKind.wrap .i64 (a1N1 + x28)) x3)) (.s Value)) fun rA9 =>
 gA rA9 fun cs5 =>
 gC cs5 fun m57 msA59 =>
 gI .i64 m57 fun SF3 =>
 gC msA59 fun m58 msA60 =>
 gI .i64 m58 fun ST3 =>
 gC msA60 fun m59 msA61 =>
 gL m59 fun AcceptsL3 =>
 gC msA61 fun m60 msA62 =>
 gL m60 fun CommitsL3 =>
 gC msA62 fun m61 msA63 =>
 gL m61 fun ToldL3 =>
 gC msA63 fun m62 msA64 =>
 gB m62 fun Done3 =>
 gC msA64 fun m63 msA65 =>
 gS m63 fun Value4 =>
 gN msA65 <|
 some (.inl [.i .i64 SF1, .i .i64 ST1, .list AcceptsL1, .list CommitsL1, .list ToldL1, .b Done1, .s Value2, .i .i64 SF2, .i .i64 ST2, .list AcceptsL2, .list CommitsL2, .list ToldL2, .b Done2, .s Value3, .i .i64 SF3, .i .i64 ST3, .list AcceptsL3, .list CommitsL3, .list ToldL3, .b Done3, .s Value4, .i .i64 (IntKind.wrap .i64 (x28 + 1))]))) (
 some (.inr (4, [.i .i64 x7, .i .i64 x8, .list x9, .list x10, .list x11, .b x12, .s x13, .i .i64 x14, .i .i64 x15, .list x16, .list x17, .list x18, .b x19, .s x20, .i .i64 x21, .i .i64 x22, .list x23, .list x24, .list x25, .b x26, .s x27])))) [.i .i64 SF, .i .i64 ST, .list AcceptsL, .list CommitsL, .list ToldL, .b Done, .s Value1, .i .i64 SF, .i .i64 ST, .list AcceptsL, .list CommitsL, .list ToldL, .b Done, .s Value1, .i .i64 SF, .i .i64 ST, .list AcceptsL, .list CommitsL, .list ToldL, .b Done, .s Value1, .i .i64 0]) fun p1 =>
 ifB (Nat.beq p1.1 4) (
 gC p1.2 fun m64 msA66 =>
 gI .i64 m64 fun x34 =>
 gC msA66 fun m65 msA67 =>
 gI .i64 m65 fun x35 =>
 gC msA67 fun m66 msA68 =>
 gL m66 fun x36 =>
 gC msA68 fun m67 msA69 =>
 gL m67 fun x37 =>
 gC msA69 fun m68 msA70 =>
 gL m68 fun x38 =>
 gC msA70 fun m69 msA71 =>
 gB m69 fun x39 =>
 gC msA71 fun m70 msA72 =>
 gS m70 fun x40 =>
 gC msA72 fun m71 msA73 =>
 gI .i64 m71 fun x41 =>
 gC msA73 fun m72 msA74 =>
 gI .i64 m72 fun x42 =>
 gC msA74 fun m73 msA75 =>
 gL m73 fun x43 =>
 gC msA75 fun m74 msA76 =>
 gL m74 fun x44 =>
 gC msA76 fun m75 msA77 =>
 gL m75 fun x45 =>
 gC msA77 fun m76 msA78 =>
 gB m76 fun x46 =>
 gC msA78 fun m77 msA79 =>
 gS m77 fun x47 =>
 gC msA79 fun m78 msA80 =>
 gI .i64 m78 fun x48 =>
 gC msA80 fun m79 msA81 =>
 gI .i64 m79 fun x49 =>
 gC msA81 fun m80 msA82 =>
 gL m80 fun x50 =>
 gC msA82 fun m81 msA83 =>
 gL m81 fun x51 =>
 gC msA83 fun m82 msA84 =>
 gL m82 fun x52 =>
 gC msA84 fun m83 msA85 =>
 gB m83 fun x53 =>
 gC msA85 fun m84 msA86 =>
 gS m84 fun x54 =>
 gN msA86 <|
 bd (
 bd (dL22Alive) fun rA10 =>
 gB rA10 fun x55 =>
 ifB x55 (
 ifB x39 (
 ifB x46 (
 ifB x53 (
 ifB (decide (x40 = Value)) (
 ifB (decide (x47 = Value)) (
 some [.b (decide (x54 = Value))]) (
 some [.b false])) (
 some [.b false])) (
 some [.b false])) (
 some [.b false])) (
 some [.b false])) (
 some [.b false])) fun vs5 =>
 gC vs5 fun m85 msA87 =>
 gB m85 fun x56 =>
 gN msA87 <|
 some (.b x56)) (
 chk (Nat.beq p1.1 1) <|
 gC p1.2 fun m86 msA88 =>
 gB m86 fun x57 =>
 gN msA88 <|
 some (.b x57))) (
 bd (dSizeN (.agg [.i .i64 F, .i .i64 T])) fun rA11 =>
 gI .i64 rA11 fun x58 =>
 bd (Loop (fun msA89 =>
 gC msA89 fun m87 msA90 =>
 gL m87 fun xs2 =>
 gC msA90 fun m88 msA91 =>
 gI .i64 m88 fun x59 =>
 gN msA91 <|
 bd (
 bd (dSizeProof (.agg [.i .i64 F, .i .i64 T])) fun rA12 =>
 gI .i64 rA12 fun x60 =>
 ifB (decide (x59 < x60)) (
 some [.b (decide (x59 < 64))]) (
 some [.b false])) fun vs6 =>
 gC vs6 fun m89 msA92 =>
 gB m89 fun x61 =>
 gN msA92 <|
 ifB x61 (
 lenN xs2 fun len2 =>
 lenN ([.agg [.i .i64 x59, .i .i64 View, .s Value]] : List MV) fun len3 =>
 chk (decide ((len2 + len3) * 32 ≤ 2 ^ 46)) <|
 some (.inl [.list (xs2 ++ ([.agg [.i .i64 x59, .i .i64 View, .s Value]] : List MV)), .i .i64 (IntKind.wrap .i64 (x59 + 1))])) (
 some (.inr (2, [.list xs2])))) [.list ([] : List MV), .i .i64 0]) fun p4 =>
 chk (Nat.beq p4.1 2) <|
 gC p4.2 fun m90 msA93 =>
 gL m90 fun xs3 =>
 gN msA93 <|
 bd (Loop (fun msA94 =>
 gC msA94 fun m91 msA95 =>
 gI .i64 m91 fun x62 =>
 gC msA95 fun m92 msA96 =>
 gI .i64 m92 fun x63 =>
 gC msA96 fun m93 msA97 =>
 gL m93 fun x64 =>
 gC msA97 fun m94 msA98 =>
 gL m94 fun x65 =>
 gC msA98 fun m95 msA99 =>
 gL m95 fun x66 =>
 gC msA99 fun m96 msA100 =>
 gB m96 fun x67 =>
 gC msA100 fun m97 msA101 =>
 gS m97 fun x68 =>
 gC msA101 fun m98 msA102 =>
 gI .i64 m98 fun x69 =>
 gC msA102 fun m99 msA103 =>
 gI .i64 m99 fun x70 =>
 gC msA103 fun m100 msA104 =>
 gL m100 fun x71 =>
 gC msA104 fun m101 msA105 =>
 gL m101 fun x72 =>
 gC msA105 fun m102 msA106 =>
 gL m102 fun x73 =>
 gC msA106 fun m103 msA107 =>
 gB m103 fun x74 =>
 gC msA107 fun m104 msA108 =>
 gS m104 fun x75 =>
 gC msA108 fun m105 msA109 =>
 gI .i64 m105 fun x76 =>
 gC msA109 fun m106 msA110 =>
 gI .i64 m106 fun x77 =>
 gC msA110 fun m107 msA111 =>
 gL m107 fun x78 =>
 gC msA111 fun m108 msA112 =>
 gL m108 fun x79 =>
 gC msA112 fun m109 msA113 =>
 gL m109 fun x80 =>
 gC msA113 fun m110 msA114 =>
 gB m110 fun x81 =>
 gC msA114 fun m111 msA115 =>
 gS m111 fun x82 =>
 gC msA115 fun m112 msA116 =>
 gI .i64 m112 fun x83 =>
 gN msA116 <|
 bd (
 ifB (decide (x83 < x58)) (
 some [.b (decide (x83 < 64))]) (
 some [.b false])) fun vs7 =>
 gC vs7 fun m113 msA117 =>
 gB m113 fun x84 =>
 gN msA117 <|
 ifB x84 (
 chk (!decide (x58 = 0)) <|
 bd (
 bd (dSizeFast (.agg [.i .i64 F, .i .i64 T])) fun rA13 =>
 gI .i64 rA13 fun x85 =>
 ifB (!(decide (x67 = (decide (x85 ≤ x83))))) (
 some [.b true]) (
 bd (dSizeProof (.agg [.i .i64 F, .i .i64 T])) fun rA14 =>
 gI .i64 rA14 fun x86 =>
 ifB (!(decide (x74 = (decide (x86 ≤ x83))))) (
 some [.b true]) (
 bd (dSizeWeak (.agg [.i .i64 F, .i .i64 T])) fun rA15 =>
 gI .i64 rA15 fun x87 =>
 some [.b (!(decide (x81 = (decide (x87 ≤ x83)))))]))) fun vs8 =>
 gC vs8 fun m114 msA118 =>
 gB m114 fun x88 =>
 gN msA118 <|
 ifB x88 (
 some (.inr (1, [.b false]))) (
 bd (dLearnerAccepted (.agg [.i .i64 x62, .i .i64 x63, .list x64, .list x65, .list x66, .b x67, .s x68]) (.agg [.i .i64 (Int.tmod (IntKind.wrap .i64 (a1N1 + x83)) x58), .i .i64 View, .s Value])) fun rA16 =>
 gA rA16 fun cs6 =>
 gC cs6 fun m115 msA119 =>
 gI .i64 m115 fun SF4 =>
 gC msA119 fun m116 msA120 =>
 gI .i64 m116 fun ST4 =>
 gC msA120 fun m117 msA121 =>
 gL m117 fun AcceptsL4 =>
 gC msA121 fun m118 msA122 =>
 gL m118 fun CommitsL4 =>
 gC msA122 fun m119 msA123 =>
 gL m119 fun ToldL4 =>
 gC msA123 fun m120 msA124 =>
 gB m120 fun Done4 =>
 gC msA124 fun m121 msA125 =>
 gS m121 fun Value5 =>
 gN msA125 <|
 bd (dLearnerCommitted (.agg [.i .i64 x69, .i .i64 x70, .list x71, .list x72, .list x73, .b x74, .s x75]) (.i .i64 (Int.tmod (IntKind.wrap .i64 (a1N1 + x83)) x58)) (.list xs3)) fun rA17 =>
 gA rA17 fun cs7 =>
 gC cs7 fun m122 msA126 =>
 gI .i64 m122 fun SF5 =>
 gC msA126 fun m123 msA127 =>
 gI .i64 m123 fun ST5 =>
 gC msA127 fun m124 msA128 =>
 gL m124 fun AcceptsL5 =>
 gC msA128 fun m125 msA129 =>
 gL m125 fun CommitsL5 =>
 gC msA129 fun m126 msA130 =>
 gL m126 fun ToldL5 =>
 gC msA130 fun m127 msA131 =>
 gB m127 fun Done5 =>
 gC msA131 fun m128 msA132 =>
 gS m128 fun Value6 =>
 gN msA132 <|
 bd (dLearnerTold (.agg [.i .i64 x76, .i .i64 x77, .list x78, .list x79, .list x80, .b x81, .s x82]) (.i .i64 (Int.tmod (IntKind.wrap .i64 (a1N1 + x83)) x58)) (.s Value)) fun rA18 =>
 gA rA18 fun cs8 =>
 gC cs8 fun m129 msA133 =>
 gI .i64 m129 fun SF6 =>
 gC msA133 fun m130 msA134 =>
 gI .i64 m130 fun ST6 =>
 gC msA134 fun m131 msA135 =>
 gL m131 fun AcceptsL6 =>
 gC msA135 fun m132 msA136 =>
 gL m132 fun CommitsL6 =>
 gC msA136 fun m133 msA137 =>
 gL m133 fun ToldL6 =>
 gC msA137 fun m134 msA138 =>
 gB m134 fun Done6 =>
 gC msA138 fun m135 msA139 =>
 gS m135 fun Value7 =>
 gN msA139 <|
 some (.inl [.i .i64 SF4, .i .i64 ST4, .list AcceptsL4, .list CommitsL4, .list ToldL4, .b Done4, .s Value5, .i .i64 SF5, .i .i64 ST5, .list AcceptsL5, .list CommitsL5, .list ToldL5, .b Done5, .s Value6, .i .i64 SF6, .i .i64 ST6, .list AcceptsL6, .list CommitsL6, .list ToldL6, .b Done6, .s Value7, .i .i64 (IntKind.wrap .i64 (x83 + 1))]))) (
 some (.inr (4, [.i .i64 x62, .i .i64 x63, .list x64, .list x65, .list x66, .b x67, .s x68, .i .i64 x69, .i .i64 x70, .list x71, .list x72, .list x73, .b x74, .s x75, .i .i64 x76, .i .i64 x77, .list x78, .list x79, .list x80, .b x81, .s x82])))) [.i .i64 SF, .i .i64 ST, .list AcceptsL, .list CommitsL, .list ToldL, .b Done, .s Value1, .i .i64 SF, .i .i64 ST, .list AcceptsL, .list CommitsL, .list ToldL, .b Done, .s Value1, .i .i64 SF, .i .i64 ST, .list AcceptsL, .list CommitsL, .list ToldL, .b Done, .s Value1, .i .i64 0]) fun p5 =>
 ifB (Nat.beq p5.1 4) (
 gC p5.2 fun m136 msA140 =>
 gI .i64 m136 fun x89 =>
 gC msA140 fun m137 msA141 =>
 gI .i64 m137 fun x90 =>
 gC msA141 fun m138 msA142 =>
 gL m138 fun x91 =>
 gC msA142 fun m139 msA143 =>
 gL m139 fun x92 =>
 gC msA143 fun m140 msA144 =>
 gL m140 fun x93 =>
 gC msA144 fun m141 msA145 =>
 gB m141 fun x94 =>
 gC msA145 fun m142 msA146 =>
 gS m142 fun x95 =>
 gC msA146 fun m143 msA147 =>
 gI .i64 m143 fun x96 =>
 gC msA147 fun m144 msA148 =>
 gI .i64 m144 fun x97 =>
 gC msA148 fun m145 msA149 =>
 gL m145 fun x98 =>
 gC msA149 fun m146 msA150 =>
 gL m146 fun x99 =>
 gC msA150 fun m147 msA151 =>
 gL m147 fun x100 =>
 gC msA151 fun m148 msA152 =>
 gB m148 fun x101 =>
 gC msA152 fun m149 msA153 =>
 gS m149 fun x102 =>
 gC msA153 fun m150 msA154 =>
 gI .i64 m150 fun x103 =>
 gC msA154 fun m151 msA155 =>
 gI .i64 m151 fun x104 =>
 gC msA155 fun m152 msA156 =>
 gL m152 fun x105 =>
 gC msA156 fun m153 msA157 =>
 gL m153 fun x106 =>
 gC msA157 fun m154 msA158 =>
 gL m154 fun x107 =>
 gC msA158 fun m155 msA159 =>
 gB m155 fun x108 =>
 gC msA159 fun m156 msA160 =>
 gS m156 fun x109 =>
 gN msA160 <|
 bd (
 bd (dL22Alive) fun rA19 =>
 gB rA19 fun x110 =>
 ifB x110 (
 ifB x94 (
 ifB x101 (
 ifB x108 (
 ifB (decide (x95 = Value)) (
 ifB (decide (x102 = Value)) (
 some [.b (decide (x109 = Value))]) (
 some [.b false])) (
 some [.b false])) (
 some [.b false])) (
 some [.b false])) (
 some [.b false])) (
 some [.b false])) fun vs9 =>
 gC vs9 fun m157 msA161 =>
 gB m157 fun x111 =>
 gN msA161 <|
 some (.b x111)) (
 chk (Nat.beq p5.1 1) <|
 gC p5.2 fun m158 msA162 =>
 gB m158 fun x112 =>
 gN msA162 <|
 some (.b x112))))
theorem linkL22LearnerLearns (a a1 a2 : MV) : bodyK cxL22LearnerLearns [] none Try.f7 [a, a1, a2] = dL22LearnerLearns a a1 a2 := by kernel_rfl
noncomputable def gL22LearnerLearns : Nat → List MV → Option MV := addG 7 (lst3 dL22LearnerLearns) gLearnerCommitted
theorem soundL22LearnerLearns : SoundG Try.prog cx gL22LearnerLearns :=
  soundLearnerCommitted.fn (c' := cxL22LearnerLearns) (caps := []) ⟨rfl, rfl, rfl, rfl, rfl, rfl, rfl, rfl⟩ rfl tab_ok eq_ok fk_ok mt_ok mix_ok Try.func7 (by kernel_rfl) (fun _ => rfl) (lst3_of linkL22LearnerLearns)
end Dn.S
