import Derived.Test.YtjblhgpbkfmkoaaDnYTab
import Derived.Test.YtjblhgpbkfmkoaaDnC
import Derived.Test.YtjblhgpbkfmkoaaDnYT
import Derived.KernelRfl
import Derived.Test.YtjblhgpbkfmkoaaProg
/-
  The functions, on plain values, and their contracts. Conditions: none.
-/
open Go Dn Go.Proofs
set_option linter.unusedVariables false
set_option linter.unusedSimpArgs false
set_option maxRecDepth 100000
namespace Dn.S
theorem tab_ok : TIok Try.prog (lookT tiTab) := tabB_ok (by kernel_rfl)
theorem eq_ok : EqOK Try.prog (lookT tiTab) := eqTabB_ok (by kernel_rfl)
theorem mix_ok : Try.prog.follows .mixedOrders = true := by kernel_rfl
def lookH : List (Nat × Hint) → Nat → Hint
  | [], _ => default
  | (k, s) :: r, t => bif Nat.beq k t then s else lookH r t
def lookL : List (Nat × List Nat) → Nat → List Nat
  | [], _ => []
  | (k, s) :: r, t => bif Nat.beq k t then s else lookL r t
def lookN : List (Nat × Nat) → Nat → Nat
  | [], _ => 0
  | (k, s) :: r, t => bif Nat.beq k t then s else lookN r t
def kk (n : Nat) : Nat := n
def gv (n : Nat) : Bool := nmem [118, 83] n
def frs (n : Nat) : Bool := nmem [117, 118] n
def ftyOf : List (Nat × Nat) := [(117, 72), (118, 72)]
def lookF : List (Nat × FloatKind) → Nat → Option FloatKind
  | [], _ => none
  | (k, s) :: r, t => bif Nat.beq k t then some s else lookF r t
def fkTab : List (Nat × FloatKind) := [(170, .f64)]
theorem fk_ok : ∀ t k, lookF fkTab t = some k → Try.prog.underlying t = some (.float k) := by
  intro t k h
  unfold fkTab at h
  simp only [lookF] at h
  cases hb : Nat.beq 170 t with
  | true =>
    rw [hb] at h
    have ht := Nat.eq_of_beq_eq_true hb
    subst ht
    simp only [cond_true, Option.some.injEq] at h
    subst h
    exact Try.underlying170
  | false =>
  rw [hb] at h
  simp only [cond_false] at h
  cases h
def mtTab : List (Nat × (Nat × Bool)) := [(184, (186, false)), (190, (9, false))]
def lookG : List (Nat × (Nat × List LK)) → Nat → Option (Nat × List LK)
  | [], _ => none
  | (k, s) :: r, t => bif Nat.beq k t then some s else lookG r t
def sigTab : List (Nat × (Nat × List LK)) := [(83, (1, [.k (.i .i64), .k (.i .i64), .k (.l), .k (.l), .k (.l), .k (.b), .k (.s)]))]
def cx : Ctx := ⟨lookT tiTab, kk, fun _ _ => none, gv, frs, lookN ftyOf, lookG sigTab, [], 0, [], [], fun _ => [], lookF fkTab, lookM mtTab, fun _ => [], fun _ => default, fun _ => default, fun _ => default⟩
theorem mt_ok : MapTys Try.prog cx := mapTabB_ok (l := mtTab) (by kernel_rfl) (fun _ _ h => h)
abbrev sigK83 : List LK := [.k (.i .i64), .k (.i .i64), .k (.l), .k (.l), .k (.l), .k (.b), .k (.s)]
def tiAt (t : Nat) : TI := match lookT tiTab t with | some I => I | none => ⟨false, 0, 0, [], [], [], [], 0, []⟩
theorem tv24 : cx.tv 24 = some (tiAt 24) := by kernel_rfl
theorem tv72 : cx.tv 72 = some (tiAt 72) := by kernel_rfl
theorem hand117 {g : Nat → List MV → Option MV} (h : SoundG Try.prog cx g) : SoundG Try.prog cx (addG 117 (cloneF 3 32) g) := h.add1 (fun _ => rfl) (fun ms r hr => by
  obtain ⟨xs, rfl, rfl, h1, h2⟩ := cloneF_some hr
  exact clone_ok (P := Try.prog) (c := cx) (f := 117) (fn := Try.f117) (t := 24) (I := tiAt 24) (E := tiAt 72) (i0 := 0) (i1 := 1) (i2 := 2) (i3 := 3) (oA := opAt Try.f117 noOp 0) (oB := opAt Try.f117 noOp 1) (oC := opAt Try.f117 noOp 2) (oD := opAt Try.f117 noOp 3) (oE := opAt Try.f117 noOp 4) (oF := opAt Try.f117 noOp 5) (oG := opAt Try.f117 noOp 6) (oH := opAt Try.f117 noOp 7) tab_ok tv24 (by kernel_rfl) tv72 (Nat.le_of_ble_eq_true (by kernel_rfl)) (by kernel_rfl) (by kernel_rfl) Try.func117 (by kernel_rfl) (by kernel_rfl) (by kernel_rfl) (by kernel_rfl)
    ⟨by kernel_rfl, by kernel_rfl, by kernel_rfl⟩ ⟨by kernel_rfl, by kernel_rfl, by kernel_rfl⟩ ⟨by kernel_rfl, by kernel_rfl, by kernel_rfl⟩ ⟨by kernel_rfl, by kernel_rfl, by kernel_rfl⟩ ⟨by kernel_rfl, by kernel_rfl, by kernel_rfl⟩ ⟨by kernel_rfl, by kernel_rfl, by kernel_rfl⟩ ⟨by kernel_rfl, by kernel_rfl, by kernel_rfl⟩ ⟨by kernel_rfl, by kernel_rfl, by kernel_rfl⟩ (by rw [show (tiAt 72).size = 3 by kernel_rfl]; exact h1) (by rw [show (tiAt 72).bytes = 32 by kernel_rfl]; exact h2))
theorem ins118 : InsFn Try.prog 118 24 3 4 72 134 Try.f118 (fun k => k) (opAt Try.f118 noOp) (insTail (opAt Try.f118 noOp)) := by
  refine ⟨Try.func118, by kernel_rfl, by kernel_rfl, by kernel_rfl, by kernel_rfl, ?_, mix_ok, by kernel_rfl⟩
  exact ⟨⟨by kernel_rfl, by kernel_rfl, by kernel_rfl⟩, ⟨by kernel_rfl, by kernel_rfl, by kernel_rfl⟩, ⟨by kernel_rfl, by kernel_rfl, by kernel_rfl⟩, ⟨by kernel_rfl, by kernel_rfl, by kernel_rfl⟩, ⟨by kernel_rfl, by kernel_rfl, by kernel_rfl⟩, ⟨by kernel_rfl, by kernel_rfl, by kernel_rfl⟩, ⟨by kernel_rfl, by kernel_rfl, by kernel_rfl⟩, ⟨by kernel_rfl, by kernel_rfl, by kernel_rfl⟩, ⟨by kernel_rfl, by kernel_rfl, by kernel_rfl⟩, ⟨by kernel_rfl, by kernel_rfl, by kernel_rfl⟩, ⟨by kernel_rfl, by kernel_rfl, by kernel_rfl⟩, ⟨by kernel_rfl, by kernel_rfl, by kernel_rfl⟩, ⟨by kernel_rfl, by kernel_rfl, by kernel_rfl⟩, ⟨by kernel_rfl, by kernel_rfl, by kernel_rfl⟩, ⟨by kernel_rfl, by kernel_rfl, by kernel_rfl⟩, ⟨by kernel_rfl, by kernel_rfl, by kernel_rfl⟩, ⟨by kernel_rfl, by kernel_rfl, by kernel_rfl⟩, ⟨by kernel_rfl, by kernel_rfl, by kernel_rfl⟩, ⟨by kernel_rfl, by kernel_rfl, by kernel_rfl⟩, ⟨by kernel_rfl, by kernel_rfl, by kernel_rfl⟩, ⟨by kernel_rfl, by kernel_rfl, by kernel_rfl⟩, ⟨by kernel_rfl, by kernel_rfl, by kernel_rfl⟩, ⟨by kernel_rfl, by kernel_rfl, by kernel_rfl⟩, ⟨by kernel_rfl, by kernel_rfl, by kernel_rfl⟩, ⟨by kernel_rfl, by kernel_rfl, by kernel_rfl⟩, ⟨by kernel_rfl, by kernel_rfl, by kernel_rfl⟩, ⟨by kernel_rfl, by kernel_rfl, by kernel_rfl⟩, ⟨by kernel_rfl, by kernel_rfl, by kernel_rfl⟩, ⟨by kernel_rfl, by kernel_rfl, by kernel_rfl⟩, ⟨by kernel_rfl, by kernel_rfl, by kernel_rfl⟩, ⟨by kernel_rfl, by kernel_rfl, by kernel_rfl⟩, ⟨by kernel_rfl, by kernel_rfl, by kernel_rfl⟩, ⟨by kernel_rfl, by kernel_rfl, by kernel_rfl⟩, ⟨by kernel_rfl, by kernel_rfl, by kernel_rfl⟩, ⟨by kernel_rfl, by kernel_rfl, by kernel_rfl⟩, ⟨by kernel_rfl, by kernel_rfl, by kernel_rfl⟩, ⟨by kernel_rfl, by kernel_rfl, by kernel_rfl⟩, ⟨by kernel_rfl, by kernel_rfl, by kernel_rfl⟩, ⟨by kernel_rfl, by kernel_rfl, by kernel_rfl⟩, ⟨by kernel_rfl, by kernel_rfl, by kernel_rfl⟩, ⟨by kernel_rfl, by kernel_rfl, by kernel_rfl⟩, ⟨by kernel_rfl, by kernel_rfl, by kernel_rfl⟩, ⟨by kernel_rfl, by kernel_rfl, by kernel_rfl⟩, ⟨by kernel_rfl, by kernel_rfl, by kernel_rfl⟩, ⟨by kernel_rfl, by kernel_rfl, by kernel_rfl⟩, ⟨by kernel_rfl, by kernel_rfl, by kernel_rfl⟩, ⟨by kernel_rfl, by kernel_rfl, by kernel_rfl⟩, ⟨by kernel_rfl, by kernel_rfl, by kernel_rfl⟩, ⟨by kernel_rfl, by kernel_rfl, by kernel_rfl⟩, ⟨by kernel_rfl, by kernel_rfl, by kernel_rfl⟩, ⟨by kernel_rfl, by kernel_rfl, by kernel_rfl⟩, ⟨by kernel_rfl, by kernel_rfl, by kernel_rfl⟩, ⟨by kernel_rfl, by kernel_rfl, by kernel_rfl⟩, ⟨by kernel_rfl, by kernel_rfl, by kernel_rfl⟩, ⟨by kernel_rfl, by kernel_rfl, by kernel_rfl⟩, ⟨by kernel_rfl, by kernel_rfl, by kernel_rfl⟩, ⟨by kernel_rfl, by kernel_rfl, by kernel_rfl⟩, ⟨by kernel_rfl, by kernel_rfl, by kernel_rfl⟩, ⟨by kernel_rfl, by kernel_rfl, by kernel_rfl⟩, ⟨by kernel_rfl, by kernel_rfl, by kernel_rfl⟩, ⟨by kernel_rfl, by kernel_rfl, by kernel_rfl⟩, ⟨by kernel_rfl, by kernel_rfl, by kernel_rfl⟩, ⟨by kernel_rfl, by kernel_rfl, by kernel_rfl⟩, ⟨by kernel_rfl, by kernel_rfl, by kernel_rfl⟩, ⟨by kernel_rfl, by kernel_rfl, by kernel_rfl⟩, ⟨by kernel_rfl, by kernel_rfl, by kernel_rfl⟩, ⟨by kernel_rfl, by kernel_rfl, by kernel_rfl⟩, ⟨by kernel_rfl, by kernel_rfl, by kernel_rfl⟩, ⟨by kernel_rfl, by kernel_rfl, by kernel_rfl⟩, ⟨by kernel_rfl, by kernel_rfl, by kernel_rfl⟩, ⟨by kernel_rfl, by kernel_rfl, by kernel_rfl⟩, ⟨by kernel_rfl, by kernel_rfl, by kernel_rfl⟩, ⟨by kernel_rfl, by kernel_rfl, by kernel_rfl⟩, ⟨by kernel_rfl, by kernel_rfl, by kernel_rfl⟩, ⟨by kernel_rfl, by kernel_rfl, by kernel_rfl⟩, ⟨by kernel_rfl, by kernel_rfl, by kernel_rfl⟩, ⟨by kernel_rfl, by kernel_rfl, by kernel_rfl⟩, ⟨by kernel_rfl, by kernel_rfl, by kernel_rfl⟩, ⟨by kernel_rfl, by kernel_rfl, by kernel_rfl⟩, ⟨by kernel_rfl, by kernel_rfl, by kernel_rfl⟩, ⟨by kernel_rfl, by kernel_rfl, by kernel_rfl⟩, ⟨by kernel_rfl, by kernel_rfl, by kernel_rfl⟩, ⟨by kernel_rfl, by kernel_rfl, by kernel_rfl⟩, by kernel_rfl, by kernel_rfl⟩
theorem ov118 : ∀ args w, (callFunc 134 args).run Try.prog w = ((Extern.SlicesOverlaps.overlaps #[24, 24] #[4] args).run Try.prog w).andThen fun v w' => .ok (.value v) w' := fun args w => run_callFunc_extern Try.func134 (by kernel_rfl) (by kernel_rfl) (by kernel_rfl) (e := Extern.SlicesOverlaps.overlaps #[24, 24] #[4]) (by kernel_rfl) args w
theorem hand118 {g : Nat → List MV → Option MV} (h : SoundG Try.prog cx g) : SoundG Try.prog cx (addG 118 (insertF 32) g) := h.add1 (fun _ => rfl) (fun ms r hr => by
  obtain ⟨xs, ys, i, rfl, rfl, h1, h2, h3⟩ := insertF_some hr
  exact insert_ok (P := Try.prog) (c := cx) (I := tiAt 24) (E := tiAt 72) ins118 tab_ok tv24 (by kernel_rfl) tv72 (Nat.le_of_ble_eq_true (by kernel_rfl)) (by kernel_rfl) (by kernel_rfl) (by kernel_rfl) (by kernel_rfl) ov118 h1 h2 (by rw [show (tiAt 72).bytes = 32 by kernel_rfl]; exact h3))
noncomputable def H117 : Nat → List MV → Option MV := addG 117 (cloneF 3 32) (fun _ _ => none)
theorem soundH117 : SoundG Try.prog cx H117 := hand117 (SoundG.none _ _)
noncomputable def H118 : Nat → List MV → Option MV := addG 118 (insertF 32) H117
theorem soundH118 : SoundG Try.prog cx H118 := hand118 soundH117

noncomputable def cxSizeSizePair : Ctx := ⟨lookT tiTab, kk, H118, gv, frs, lookN ftyOf, lookG sigTab, [], 10, [], [], lookL [], lookF fkTab, lookM mtTab, lookL [], lookH [], lookH [], lookH []⟩
noncomputable def dSizeSizePair (sA : MV) : Option MV :=
 gA sA fun cs =>
 gC cs fun m msA =>
 gI .i64 m fun F =>
 gC msA fun m1 msA1 =>
 gI .i64 m1 fun T =>
 gN msA1 <|
 some (.raw (.complex .f64 (FloatKind.nearest .f64 F) (FloatKind.nearest .f64 T)))
theorem linkSizeSizePair (sA : MV) : bodyK cxSizeSizePair [] none Try.f111 [sA] = dSizeSizePair sA := by kernel_rfl
noncomputable def gSizeSizePair : Nat → List MV → Option MV := addG 111 (lst1 dSizeSizePair) H118
theorem soundSizeSizePair : SoundG Try.prog cx gSizeSizePair :=
  soundH118.fn (c' := cxSizeSizePair) (caps := []) ⟨rfl, rfl, rfl, rfl, rfl, rfl, rfl, rfl⟩ rfl tab_ok eq_ok fk_ok mt_ok mix_ok Try.func111 (by kernel_rfl) (fun _ => rfl) (lst1_of linkSizeSizePair)

noncomputable def cxSizeSizeOf : Ctx := ⟨lookT tiTab, kk, gSizeSizePair, gv, frs, lookN ftyOf, lookG sigTab, [], 21, [], [], lookL [], lookF fkTab, lookM mtTab, lookL [], lookH [], lookH [], lookH []⟩
noncomputable def dSizeSizeOf (sA times : MV) : Option MV :=
 gA sA fun cs =>
 gC cs fun m msA =>
 gI .i64 m fun F =>
 gC msA fun m1 msA1 =>
 gI .i64 m1 fun T =>
 gN msA1 <|
 gR times fun times1 =>
 bd (dSizeSizePair (.agg [.i .i64 F, .i .i64 T])) fun rA =>
 gR rA fun x =>
 gCx x fun re im =>
 gCx times1 fun re1 im1 =>
 bd (FloatKind.f64.format.mul re re1) fun f =>
 gCx x fun re2 im2 =>
 gCx times1 fun re3 im3 =>
 bd (FloatKind.f64.format.mul im2 im3) fun f1 =>
 bd (FloatKind.f64.format.add f f1) fun f2 =>
 bd ((FloatKind.decode .f64 f2).toInt .zero) fun n =>
 chk (decide (IntKind.min .i64 ≤ n ∧ n ≤ IntKind.max .i64)) <|
 some (.i .i64 (IntKind.wrap .i64 (n + 1)))
theorem linkSizeSizeOf (sA times : MV) : bodyK cxSizeSizeOf [] none Try.f91 [sA, times] = dSizeSizeOf sA times := by kernel_rfl
noncomputable def gSizeSizeOf : Nat → List MV → Option MV := addG 91 (lst2 dSizeSizeOf) gSizeSizePair
theorem soundSizeSizeOf : SoundG Try.prog cx gSizeSizeOf :=
  soundSizeSizePair.fn (c' := cxSizeSizeOf) (caps := []) ⟨rfl, rfl, rfl, rfl, rfl, rfl, rfl, rfl⟩ rfl tab_ok eq_ok fk_ok mt_ok mix_ok Try.func91 (by kernel_rfl) (fun _ => rfl) (lst2_of linkSizeSizeOf)

noncomputable def cxSizeN : Ctx := ⟨lookT tiTab, kk, gSizeSizeOf, gv, frs, lookN ftyOf, lookG sigTab, [], 5, [], [], lookL [], lookF fkTab, lookM mtTab, lookL [], lookH [], lookH [], lookH []⟩
noncomputable def dSizeN (sA : MV) : Option MV :=
 gA sA fun cs =>
 gC cs fun m msA =>
 gI .i64 m fun F =>
 gC msA fun m1 msA1 =>
 gI .i64 m1 fun T =>
 gN msA1 <|
 bd (dSizeSizeOf (.agg [.i .i64 F, .i .i64 T]) (.raw (.complex .f64 4613937818241073152 4611686018427387904))) fun rA =>
 gI .i64 rA fun x =>
 some (.i .i64 x)
theorem linkSizeN (sA : MV) : bodyK cxSizeN [] none Try.f45 [sA] = dSizeN sA := by kernel_rfl
noncomputable def gSizeN : Nat → List MV → Option MV := addG 45 (lst1 dSizeN) gSizeSizeOf
theorem soundSizeN : SoundG Try.prog cx gSizeN :=
  soundSizeSizeOf.fn (c' := cxSizeN) (caps := []) ⟨rfl, rfl, rfl, rfl, rfl, rfl, rfl, rfl⟩ rfl tab_ok eq_ok fk_ok mt_ok mix_ok Try.func45 (by kernel_rfl) (fun _ => rfl) (lst1_of linkSizeN)

noncomputable def cxSizeRight : Ctx := ⟨lookT tiTab, kk, gSizeN, gv, frs, lookN ftyOf, lookG sigTab, [], 23, [], [], lookL [], lookF fkTab, lookM mtTab, lookL [], lookH [(1, ⟨[1], [], [], [(0, [(2, .sc (.k .b))])], []⟩)], lookH [], lookH []⟩
noncomputable def dSizeRight (sA : MV) : Option MV :=
 gA sA fun cs =>
 gC cs fun m msA =>
 gI .i64 m fun F =>
 gC msA fun m1 msA1 =>
 gI .i64 m1 fun T =>
 gN msA1 <|
 bd (
 ifB (decide ((1 : Int) ≤ F)) (
 ifB (decide (F ≤ 5)) (
 ifB (decide ((0 : Int) ≤ T)) (
 some [.b (decide (T ≤ F))]) (
 some [.b false])) (
 some [.b false])) (
 some [.b false])) fun vs =>
 gC vs fun m2 msA2 =>
 gB m2 fun x =>
 gN msA2 <|
 some (.b x)
theorem linkSizeRight (sA : MV) : bodyK cxSizeRight [] none Try.f61 [sA] = dSizeRight sA := by kernel_rfl
noncomputable def gSizeRight : Nat → List MV → Option MV := addG 61 (lst1 dSizeRight) gSizeN
theorem soundSizeRight : SoundG Try.prog cx gSizeRight :=
  soundSizeN.fn (c' := cxSizeRight) (caps := []) ⟨rfl, rfl, rfl, rfl, rfl, rfl, rfl, rfl⟩ rfl tab_ok eq_ok fk_ok mt_ok mix_ok Try.func61 (by kernel_rfl) (fun _ => rfl) (lst1_of linkSizeRight)

noncomputable def cxSizeProof : Ctx := ⟨lookT tiTab, kk, gSizeRight, gv, frs, lookN ftyOf, lookG sigTab, [], 5, [], [], lookL [], lookF fkTab, lookM mtTab, lookL [], lookH [], lookH [], lookH []⟩
noncomputable def dSizeProof (sA : MV) : Option MV :=
 gA sA fun cs =>
 gC cs fun m msA =>
 gI .i64 m fun F =>
 gC msA fun m1 msA1 =>
 gI .i64 m1 fun T =>
 gN msA1 <|
 bd (dSizeSizeOf (.agg [.i .i64 F, .i .i64 T]) (.raw (.complex .f64 4611686018427387904 4607182418800017408))) fun rA =>
 gI .i64 rA fun x =>
 some (.i .i64 x)
theorem linkSizeProof (sA : MV) : bodyK cxSizeProof [] none Try.f46 [sA] = dSizeProof sA := by kernel_rfl
noncomputable def gSizeProof : Nat → List MV → Option MV := addG 46 (lst1 dSizeProof) gSizeRight
theorem soundSizeProof : SoundG Try.prog cx gSizeProof :=
  soundSizeRight.fn (c' := cxSizeProof) (caps := []) ⟨rfl, rfl, rfl, rfl, rfl, rfl, rfl, rfl⟩ rfl tab_ok eq_ok fk_ok mt_ok mix_ok Try.func46 (by kernel_rfl) (fun _ => rfl) (lst1_of linkSizeProof)

noncomputable def cxTallyMay : Ctx := ⟨lookT tiTab, kk, gSizeProof, gv, frs, lookN ftyOf, lookG sigTab, [], 22, [], [], lookL [], lookF fkTab, lookM mtTab, lookL [], lookH [(1, ⟨[1], [], [], [(0, [(2, .sc (.k .b))])], []⟩)], lookH [], lookH []⟩
noncomputable def dTallyMay (a : MV) : Option MV :=
 gA a fun cs =>
 gC cs fun m msA =>
 gI .i64 m fun By =>
 gC msA fun m1 msA1 =>
 gI .i64 m1 fun View =>
 gC msA1 fun m2 msA2 =>
 gS m2 fun Value =>
 gN msA2 <|
 bd (
 ifB (decide ((0 : Int) ≤ By)) (
 ifB (decide ((0 : Int) ≤ View)) (
 ifB (decide (View ≤ 100000)) (
 some [.b (decide ((Value.length : Int) ≤ 6000))]) (
 some [.b false])) (
 some [.b false])) (
 some [.b false])) fun vs =>
 gC vs fun m3 msA3 =>
 gB m3 fun x =>
 gN msA3 <|
 some (.b x)
theorem linkTallyMay (a : MV) : bodyK cxTallyMay [] none Try.f96 [a] = dTallyMay a := by kernel_rfl
noncomputable def gTallyMay : Nat → List MV → Option MV := addG 96 (lst1 dTallyMay) gSizeProof
theorem soundTallyMay : SoundG Try.prog cx gTallyMay :=
  soundSizeProof.fn (c' := cxTallyMay) (caps := []) ⟨rfl, rfl, rfl, rfl, rfl, rfl, rfl, rfl⟩ rfl tab_ok eq_ok fk_ok mt_ok mix_ok Try.func96 (by kernel_rfl) (fun _ => rfl) (lst1_of linkTallyMay)

noncomputable def cxTallyRight : Ctx := ⟨lookT tiTab, kk, gTallyMay, gv, frs, lookN ftyOf, lookG sigTab, [], 33, [], [], lookL [], lookF fkTab, lookM mtTab, lookL [(4, [0, 1, 2, 3, 4, 5, 6, 7, 8, 9, 10, 11, 12, 13, 14, 15, 16, 17, 18])], lookH [(4, ⟨[1, 3, 4, 6, 7, 8], [], [], [(0, [(31, .sc (.k .b))])], []⟩)], lookH [], lookH [(2, ⟨[1, 6, 7], [], [(8, .sc (.k (.i .i64)))], [(1, [(2, .sc (.k .b))]), (2, [])], []⟩)]⟩
noncomputable def dTallyRight (t : MV) : Option MV :=
 gA t fun cs =>
 gC cs fun m msA =>
 gL m fun L =>
 gN msA <|
 lenN L fun len =>
 bd (Loop (fun msA1 =>
 gC msA1 fun m1 msA2 =>
 gI .i64 m1 fun x =>
 gN msA2 <|
 ifB (decide (x < (len : Int))) (
 idx L x fun y =>
 gA y fun cs1 =>
 gC cs1 fun m2 msA3 =>
 gI .i64 m2 fun By =>
 gC msA3 fun m3 msA4 =>
 gI .i64 m3 fun View =>
 gC msA4 fun m4 msA5 =>
 gS m4 fun Value =>
 gN msA5 <|
 bd (
 bd (dTallyMay (.agg [.i .i64 By, .i .i64 View, .s Value])) fun rA =>
 gB rA fun x1 =>
 ifB (!x1) (
 some [.b true]) (
 ifB (decide ((0 : Int) < x)) (
 idx L (IntKind.wrap .i64 (x - 1)) fun y1 =>
 gA y1 fun cs2 =>
 gC cs2 fun m5 msA6 =>
 gI .i64 m5 fun By1 =>
 gC msA6 fun m6 msA7 =>
 gI .i64 m6 fun View1 =>
 gC msA7 fun m7 msA8 =>
 gS m7 fun Value1 =>
 gN msA8 <|
 some [.b (decide (By ≤ By1))]) (
 some [.b false]))) fun vs =>
 gC vs fun m8 msA9 =>
 gB m8 fun x2 =>
 gN msA9 <|
 ifB x2 (
 some (.inr (1, [.b false]))) (
 some (.inl [.i .i64 (IntKind.wrap .i64 (x + 1))]))) (
 some (.inr (2, [])))) [.i .i64 0]) fun p =>
 ifB (Nat.beq p.1 2) (
 gN p.2 <|
 some (.b true)) (
 chk (Nat.beq p.1 1) <|
 gC p.2 fun m9 msA10 =>
 gB m9 fun x3 =>
 gN msA10 <|
 some (.b x3))
theorem linkTallyRight (t : MV) : bodyK cxTallyRight [] none Try.f66 [t] = dTallyRight t := by kernel_rfl
noncomputable def gTallyRight : Nat → List MV → Option MV := addG 66 (lst1 dTallyRight) gTallyMay
theorem soundTallyRight : SoundG Try.prog cx gTallyRight :=
  soundTallyMay.fn (c' := cxTallyRight) (caps := []) ⟨rfl, rfl, rfl, rfl, rfl, rfl, rfl, rfl⟩ rfl tab_ok eq_ok fk_ok mt_ok mix_ok Try.func66 (by kernel_rfl) (fun _ => rfl) (lst1_of linkTallyRight)

noncomputable def cxTallyVoters : Ctx := ⟨lookT tiTab, kk, gTallyRight, gv, frs, lookN ftyOf, lookG sigTab, [], 33, [29], [], lookL [], lookF fkTab, lookM mtTab, lookL [], lookH [(5, ⟨[1, 2, 7, 9, 11, 12, 13], [30], [], [(0, [(26, .sc (.k .b))])], [29, 30]⟩)], lookH [(6, ⟨[1, 2, 9, 11, 12, 13], [], [], [(0, [(7, .sc (.own 30 72 true))])], [29, 30]⟩)], lookH [(3, ⟨[1, 2, 11, 12], [], [(7, .sc (.own 30 72 true)), (13, .sc (.k (.i .i64)))], [(2, [(7, .sc (.own 30 72 true))])], [29, 30]⟩)]⟩
noncomputable def dTallyVoters (t view value : MV) : Option MV :=
 gA t fun cs =>
 gC cs fun m msA =>
 gL m fun L =>
 gN msA <|
 gI .i64 view fun view1 =>
 gS value fun value1 =>
 lenN L fun len =>
 bd (Loop (fun msA1 =>
 gC msA1 fun m1 msA2 =>
 gL m1 fun out =>
 gC msA2 fun m2 msA3 =>
 gI .i64 m2 fun x =>
 gN msA3 <|
 ifB (decide (x < (len : Int))) (
 idx L x fun y =>
 gA y fun cs1 =>
 gC cs1 fun m3 msA4 =>
 gI .i64 m3 fun By =>
 gC msA4 fun m4 msA5 =>
 gI .i64 m4 fun View =>
 gC msA5 fun m5 msA6 =>
 gS m5 fun Value =>
 gN msA6 <|
 bd (
 ifB (decide (View = view1)) (
 some [.b (decide (Value = value1))]) (
 some [.b false])) fun vs =>
 gC vs fun m6 msA7 =>
 gB m6 fun x1 =>
 gN msA7 <|
 bd (
 ifB x1 (
 lenN out fun len1 =>
 lenN ([.agg [.i .i64 By, .i .i64 View, .s Value]] : List MV) fun len2 =>
 chk (decide ((len1 + len2) * 32 ≤ 2 ^ 46)) <|
 some (0, [.list (out ++ ([.agg [.i .i64 By, .i .i64 View, .s Value]] : List MV))])) (
 some (0, [.list out]))) fun p1 =>
 chk (Nat.beq p1.1 0) <|
 gC p1.2 fun m7 msA8 =>
 gL m7 fun out1 =>
 gN msA8 <|
 some (.inl [.list out1, .i .i64 (IntKind.wrap .i64 (x + 1))])) (
 some (.inr (2, [.list out])))) [.list ([] : List MV), .i .i64 0]) fun p =>
 chk (Nat.beq p.1 2) <|
 gC p.2 fun m8 msA9 =>
 gL m8 fun out2 =>
 gN msA9 <|
 some (.list out2)
theorem linkTallyVoters (t view value : MV) : bodyK cxTallyVoters [] none Try.f119 [t, view, value] = dTallyVoters t view value := by kernel_rfl
noncomputable def gTallyVoters : Nat → List MV → Option MV := addG 119 (lst3 dTallyVoters) gTallyRight
theorem soundTallyVoters : SoundG Try.prog cx gTallyVoters :=
  soundTallyRight.fn (c' := cxTallyVoters) (caps := []) ⟨rfl, rfl, rfl, rfl, rfl, rfl, rfl, rfl⟩ rfl tab_ok eq_ok fk_ok mt_ok mix_ok Try.func119 (by kernel_rfl) (fun _ => rfl) (lst3_of linkTallyVoters)

noncomputable def cxTallyCount : Ctx := ⟨lookT tiTab, kk, gTallyVoters, gv, frs, lookN ftyOf, lookG sigTab, [], 12, [], [], lookL [], lookF fkTab, lookM mtTab, lookL [], lookH [], lookH [], lookH []⟩
noncomputable def dTallyCount (t view value : MV) : Option MV :=
 gA t fun cs =>
 gC cs fun m msA =>
 gL m fun L =>
 gN msA <|
 gI .i64 view fun view1 =>
 gS value fun value1 =>
 bd (dTallyVoters (.agg [.list L]) (.i .i64 view1) (.s value1)) fun rA =>
 gL rA fun x =>
 lenN x fun len =>
 some (.i .i64 (len : Int))
theorem linkTallyCount (t view value : MV) : bodyK cxTallyCount [] none Try.f110 [t, view, value] = dTallyCount t view value := by kernel_rfl
noncomputable def gTallyCount : Nat → List MV → Option MV := addG 110 (lst3 dTallyCount) gTallyVoters
theorem soundTallyCount : SoundG Try.prog cx gTallyCount :=
  soundTallyVoters.fn (c' := cxTallyCount) (caps := []) ⟨rfl, rfl, rfl, rfl, rfl, rfl, rfl, rfl⟩ rfl tab_ok eq_ok fk_ok mt_ok mix_ok Try.func110 (by kernel_rfl) (fun _ => rfl) (lst3_of linkTallyCount)

noncomputable def cxProofRight : Ctx := ⟨lookT tiTab, kk, gTallyCount, gv, frs, lookN ftyOf, lookG sigTab, [], 47, [], [], lookL [], lookF fkTab, lookM mtTab, lookL [(3, [0, 1, 2, 3, 4, 5, 6, 7, 8, 9, 10, 11, 12, 13, 14, 15, 16, 17, 18, 19, 20, 22, 23, 21, 24, 25, 26])], lookH [(3, ⟨[1, 2], [], [], [(0, [(4, .sc (.k .b))])], []⟩), (1, ⟨[1, 2], [], [], [(0, [(20, .sc (.k .b))])], []⟩)], lookH [], lookH []⟩
noncomputable def dProofRight (sA p : MV) : Option MV :=
 gA sA fun cs =>
 gC cs fun m msA =>
 gI .i64 m fun F =>
 gC msA fun m1 msA1 =>
 gI .i64 m1 fun T =>
 gN msA1 <|
 gL p fun p1 =>
 bd (
 bd (dSizeRight (.agg [.i .i64 F, .i .i64 T])) fun rA =>
 gB rA fun x =>
 ifB (!x) (
 some [.b true]) (
 lenN p1 fun len =>
 bd (dSizeProof (.agg [.i .i64 F, .i .i64 T])) fun rA1 =>
 gI .i64 rA1 fun x1 =>
 ifB (!decide ((len : Int) = x1)) (
 some [.b true]) (
 bd (dTallyRight (.agg [.list p1])) fun rA2 =>
 gB rA2 fun x2 =>
 some [.b (!x2)]))) fun vs =>
 gC vs fun m2 msA2 =>
 gB m2 fun x3 =>
 gN msA2 <|
 ifB x3 (
 some (.b false)) (
 bd (
 lenN p1 fun len1 =>
 idx p1 (IntKind.wrap .i64 ((len1 : Int) - 1)) fun y =>
 gA y fun cs1 =>
 gC cs1 fun m3 msA3 =>
 gI .i64 m3 fun By =>
 gC msA3 fun m4 msA4 =>
 gI .i64 m4 fun View =>
 gC msA4 fun m5 msA5 =>
 gS m5 fun Value =>
 gN msA5 <|
 bd (dSizeN (.agg [.i .i64 F, .i .i64 T])) fun rA3 =>
 gI .i64 rA3 fun x4 =>
 ifB (decide (By < x4)) (
 idx p1 0 fun y1 =>
 gA y1 fun cs2 =>
 gC cs2 fun m6 msA6 =>
 gI .i64 m6 fun By1 =>
 gC msA6 fun m7 msA7 =>
 gI .i64 m7 fun View1 =>
 gC msA7 fun m8 msA8 =>
 gS m8 fun Value1 =>
 gN msA8 <|
 idx p1 0 fun y2 =>
 gA y2 fun cs3 =>
 gC cs3 fun m9 msA9 =>
 gI .i64 m9 fun By2 =>
 gC msA9 fun m10 msA10 =>
 gI .i64 m10 fun View2 =>
 gC msA10 fun m11 msA11 =>
 gS m11 fun Value2 =>
 gN msA11 <|
 lenN p1 fun len2 =>
 bd (dTallyCount (.agg [.list p1]) (.i .i64 View1) (.s Value2)) fun rA4 =>
 gI .i64 rA4 fun x5 =>
 some [.b (decide (x5 = (len2 : Int)))]) (
 some [.b false])) fun vs1 =>
 gC vs1 fun m12 msA12 =>
 gB m12 fun x6 =>
 gN msA12 <|
 some (.b x6))
theorem linkProofRight (sA p : MV) : bodyK cxProofRight [] none Try.f88 [sA, p] = dProofRight sA p := by kernel_rfl
noncomputable def gProofRight : Nat → List MV → Option MV := addG 88 (lst2 dProofRight) gTallyCount
theorem soundProofRight : SoundG Try.prog cx gProofRight :=
  soundTallyCount.fn (c' := cxProofRight) (caps := []) ⟨rfl, rfl, rfl, rfl, rfl, rfl, rfl, rfl⟩ rfl tab_ok eq_ok fk_ok mt_ok mix_ok Try.func88 (by kernel_rfl) (fun _ => rfl) (lst2_of linkProofRight)

noncomputable def cxProofOf : Ctx := ⟨lookT tiTab, kk, gProofRight, gv, frs, lookN ftyOf, lookG sigTab, [], 16, [], [], lookL [], lookF fkTab, lookM mtTab, lookL [(3, [0, 1, 2, 3, 4, 5, 6, 7, 8, 9, 10])], lookH [], lookH [], lookH []⟩
noncomputable def dProofOf (p : MV) : Option MV :=
 gL p fun p1 =>
 lenN p1 fun len =>
 ifB (decide ((len : Int) = 0)) (
 some (.tup [.i .i64 (-1), .s ([] : List UInt8), .b false])) (
 idx p1 0 fun y =>
 gA y fun cs =>
 gC cs fun m msA =>
 gI .i64 m fun By =>
 gC msA fun m1 msA1 =>
 gI .i64 m1 fun View =>
 gC msA1 fun m2 msA2 =>
 gS m2 fun Value =>
 gN msA2 <|
 idx p1 0 fun y1 =>
 gA y1 fun cs1 =>
 gC cs1 fun m3 msA3 =>
 gI .i64 m3 fun By1 =>
 gC msA3 fun m4 msA4 =>
 gI .i64 m4 fun View1 =>
 gC msA4 fun m5 msA5 =>
 gS m5 fun Value1 =>
 gN msA5 <|
 some (.tup [.i .i64 View, .s Value1, .b true]))
theorem linkProofOf (p : MV) : bodyK cxProofOf [] none Try.f80 [p] = dProofOf p := by kernel_rfl
noncomputable def gProofOf : Nat → List MV → Option MV := addG 80 (lst1 dProofOf) gProofRight
theorem soundProofOf : SoundG Try.prog cx gProofOf :=
  soundProofRight.fn (c' := cxProofOf) (caps := []) ⟨rfl, rfl, rfl, rfl, rfl, rfl, rfl, rfl⟩ rfl tab_ok eq_ok fk_ok mt_ok mix_ok Try.func80 (by kernel_rfl) (fun _ => rfl) (lst1_of linkProofOf)

noncomputable def cxR07Right : Ctx := ⟨lookT tiTab, kk, gProofOf, gv, frs, lookN ftyOf, lookG sigTab, [], 23, [], [], lookL [], lookF fkTab, lookM mtTab, lookL [], lookH [(1, ⟨[1], [], [], [(0, [(2, .sc (.k .b))])], []⟩)], lookH [], lookH []⟩
noncomputable def dR07Right (sA : MV) : Option MV :=
 gA sA fun cs =>
 gC cs fun m msA =>
 gI .i64 m fun F =>
 gC msA fun m1 msA1 =>
 gI .i64 m1 fun T =>
 gN msA1 <|
 bd (
 ifB (decide ((1 : Int) ≤ F)) (
 ifB (decide (F ≤ 5)) (
 ifB (decide ((0 : Int) ≤ T)) (
 some [.b (decide (T ≤ F))]) (
 some [.b false])) (
 some [.b false])) (
 some [.b false])) fun vs =>
 gC vs fun m2 msA2 =>
 gB m2 fun x =>
 gN msA2 <|
 some (.b x)
theorem linkR07Right (sA : MV) : bodyK cxR07Right [] none Try.f62 [sA] = dR07Right sA := by kernel_rfl
noncomputable def gR07Right : Nat → List MV → Option MV := addG 62 (lst1 dR07Right) gProofOf
theorem soundR07Right : SoundG Try.prog cx gR07Right :=
  soundProofOf.fn (c' := cxR07Right) (caps := []) ⟨rfl, rfl, rfl, rfl, rfl, rfl, rfl, rfl⟩ rfl tab_ok eq_ok fk_ok mt_ok mix_ok Try.func62 (by kernel_rfl) (fun _ => rfl) (lst1_of linkR07Right)

noncomputable def cxR07N : Ctx := ⟨lookT tiTab, kk, gR07Right, gv, frs, lookN ftyOf, lookG sigTab, [], 11, [], [], lookL [], lookF fkTab, lookM mtTab, lookL [], lookH [], lookH [], lookH []⟩
noncomputable def dR07N (sA : MV) : Option MV :=
 gA sA fun cs =>
 gC cs fun m msA =>
 gI .i64 m fun F =>
 gC msA fun m1 msA1 =>
 gI .i64 m1 fun T =>
 gN msA1 <|
 some (.i .i64 (IntKind.wrap .i64 ((IntKind.wrap .i64 ((IntKind.wrap .i64 (3 * F)) + (IntKind.wrap .i64 (2 * T)))) + 1)))
theorem linkR07N (sA : MV) : bodyK cxR07N [] none Try.f63 [sA] = dR07N sA := by kernel_rfl
noncomputable def gR07N : Nat → List MV → Option MV := addG 63 (lst1 dR07N) gR07Right
theorem soundR07N : SoundG Try.prog cx gR07N :=
  soundR07Right.fn (c' := cxR07N) (caps := []) ⟨rfl, rfl, rfl, rfl, rfl, rfl, rfl, rfl⟩ rfl tab_ok eq_ok fk_ok mt_ok mix_ok Try.func63 (by kernel_rfl) (fun _ => rfl) (lst1_of linkR07N)

noncomputable def cxSlicesEqualApiAccept : Ctx := ⟨lookT tiTab, kk, gR07N, gv, frs, lookN ftyOf, lookG sigTab, [], 26, [], [], lookL [], lookF fkTab, lookM mtTab, lookL [(6, [0, 1, 2, 3, 4, 5, 6, 7, 8])], lookH [], lookH [], lookH [(4, ⟨[0, 1, 12], [], [(13, .sc (.k (.i .i64)))], [(1, [(4, .sc (.k .b))]), (2, [])], []⟩)]⟩
noncomputable def dSlicesEqualApiAccept (s1 s2 : MV) : Option MV :=
 gL s1 fun s1N1 =>
 gL s2 fun s2N1 =>
 lenN s1N1 fun len =>
 lenN s2N1 fun len1 =>
 ifB (!decide ((len : Int) = (len1 : Int))) (
 some (.b false)) (
 lenN s1N1 fun len2 =>
 bd (Loop (fun msA =>
 gC msA fun m msA1 =>
 gI .i64 m fun x =>
 gN msA1 <|
 ifB (decide (x < (len2 : Int))) (
 idx s1N1 x fun y =>
 gA y fun cs =>
 gC cs fun m1 msA2 =>
 gI .i64 m1 fun By =>
 gC msA2 fun m2 msA3 =>
 gI .i64 m2 fun View =>
 gC msA3 fun m3 msA4 =>
 gS m3 fun Value =>
 gN msA4 <|
 idx s2N1 x fun y1 =>
 gA y1 fun cs1 =>
 gC cs1 fun m4 msA5 =>
 gI .i64 m4 fun By1 =>
 gC msA5 fun m5 msA6 =>
 gI .i64 m5 fun View1 =>
 gC msA6 fun m6 msA7 =>
 gS m6 fun Value1 =>
 gN msA7 <|
 ifB (!((decide (By = By1)) && ((decide (View = View1)) && (decide (Value = Value1))))) (
 some (.inr (1, [.b false]))) (
 some (.inl [.i .i64 (IntKind.wrap .i64 (x + 1))]))) (
 some (.inr (2, [])))) [.i .i64 0]) fun p =>
 ifB (Nat.beq p.1 2) (
 gN p.2 <|
 some (.b true)) (
 chk (Nat.beq p.1 1) <|
 gC p.2 fun m7 msA8 =>
 gB m7 fun x1 =>
 gN msA8 <|
 some (.b x1)))
theorem linkSlicesEqualApiAccept (s1 s2 : MV) : bodyK cxSlicesEqualApiAccept [] none Try.f101 [s1, s2] = dSlicesEqualApiAccept s1 s2 := by kernel_rfl
noncomputable def gSlicesEqualApiAccept : Nat → List MV → Option MV := addG 101 (lst2 dSlicesEqualApiAccept) gR07N
theorem soundSlicesEqualApiAccept : SoundG Try.prog cx gSlicesEqualApiAccept :=
  soundR07N.fn (c' := cxSlicesEqualApiAccept) (caps := []) ⟨rfl, rfl, rfl, rfl, rfl, rfl, rfl, rfl⟩ rfl tab_ok eq_ok fk_ok mt_ok mix_ok Try.func101 (by kernel_rfl) (fun _ => rfl) (lst2_of linkSlicesEqualApiAccept)

noncomputable def cxTallySame : Ctx := ⟨lookT tiTab, kk, gSlicesEqualApiAccept, gv, frs, lookN ftyOf, lookG sigTab, [], 8, [], [], lookL [], lookF fkTab, lookM mtTab, lookL [], lookH [], lookH [], lookH []⟩
noncomputable def dTallySame (a b : MV) : Option MV :=
 gL a fun a1 =>
 gL b fun b1 =>
 bd (dSlicesEqualApiAccept (.list a1) (.list b1)) fun rA =>
 gB rA fun x =>
 some (.b x)
theorem linkTallySame (a b : MV) : bodyK cxTallySame [] none Try.f64 [a, b] = dTallySame a b := by kernel_rfl
noncomputable def gTallySame : Nat → List MV → Option MV := addG 64 (lst2 dTallySame) gSlicesEqualApiAccept
theorem soundTallySame : SoundG Try.prog cx gTallySame :=
  soundSlicesEqualApiAccept.fn (c' := cxTallySame) (caps := []) ⟨rfl, rfl, rfl, rfl, rfl, rfl, rfl, rfl⟩ rfl tab_ok eq_ok fk_ok mt_ok mix_ok Try.func64 (by kernel_rfl) (fun _ => rfl) (lst2_of linkTallySame)

noncomputable def cxR18May : Ctx := ⟨lookT tiTab, kk, gTallySame, gv, frs, lookN ftyOf, lookG sigTab, [], 22, [], [], lookL [], lookF fkTab, lookM mtTab, lookL [], lookH [(1, ⟨[1], [], [], [(0, [(2, .sc (.k .b))])], []⟩)], lookH [], lookH []⟩
noncomputable def dR18May (a : MV) : Option MV :=
 gA a fun cs =>
 gC cs fun m msA =>
 gI .i64 m fun By =>
 gC msA fun m1 msA1 =>
 gI .i64 m1 fun View =>
 gC msA1 fun m2 msA2 =>
 gS m2 fun Value =>
 gN msA2 <|
 bd (
 ifB (decide ((0 : Int) ≤ By)) (
 ifB (decide ((0 : Int) ≤ View)) (
 ifB (decide (View ≤ 100000)) (
 some [.b (decide ((Value.length : Int) ≤ 6000))]) (
 some [.b false])) (
 some [.b false])) (
 some [.b false])) fun vs =>
 gC vs fun m3 msA3 =>
 gB m3 fun x =>
 gN msA3 <|
 some (.b x)
theorem linkR18May (a : MV) : bodyK cxR18May [] none Try.f85 [a] = dR18May a := by kernel_rfl
noncomputable def gR18May : Nat → List MV → Option MV := addG 85 (lst1 dR18May) gTallySame
theorem soundR18May : SoundG Try.prog cx gR18May :=
  soundTallySame.fn (c' := cxR18May) (caps := []) ⟨rfl, rfl, rfl, rfl, rfl, rfl, rfl, rfl⟩ rfl tab_ok eq_ok fk_ok mt_ok mix_ok Try.func85 (by kernel_rfl) (fun _ => rfl) (lst1_of linkR18May)

noncomputable def cxR18Right : Ctx := ⟨lookT tiTab, kk, gR18May, gv, frs, lookN ftyOf, lookG sigTab, [], 38, [], [], lookL [], lookF fkTab, lookM mtTab, lookL [(4, [0, 1, 2, 3, 4, 5, 6, 7, 8, 9, 10, 11, 12, 13, 14, 15, 16, 17, 18, 19, 20, 21, 22, 23, 24, 25, 26])], lookH [(4, ⟨[1, 3], [], [], [(0, [(37, .sc (.k .b))])], []⟩)], lookH [], lookH [(2, ⟨[1], [], [(3, .sc (.k (.i .i64)))], [(1, [(2, .sc (.k .b))]), (2, [])], []⟩)]⟩
noncomputable def dR18Right (t : MV) : Option MV :=
 gA t fun cs =>
 gC cs fun m msA =>
 gL m fun L =>
 gN msA <|
 bd (Loop (fun msA1 =>
 gC msA1 fun m1 msA2 =>
 gI .i64 m1 fun i =>
 gN msA2 <|
 lenN L fun len =>
 ifB (decide (i < (len : Int))) (
 bd (
 idx L i fun y =>
 gA y fun cs1 =>
 gC cs1 fun m2 msA3 =>
 gI .i64 m2 fun By =>
 gC msA3 fun m3 msA4 =>
 gI .i64 m3 fun View =>
 gC msA4 fun m4 msA5 =>
 gS m4 fun Value =>
 gN msA5 <|
 bd (dR18May (.agg [.i .i64 By, .i .i64 View, .s Value])) fun rA =>
 gB rA fun x =>
 ifB (!x) (
 some [.b true]) (
 ifB (decide ((0 : Int) < i)) (
 idx L (IntKind.wrap .i64 (i - 1)) fun y1 =>
 gA y1 fun cs2 =>
 gC cs2 fun m5 msA6 =>
 gI .i64 m5 fun By1 =>
 gC msA6 fun m6 msA7 =>
 gI .i64 m6 fun View1 =>
 gC msA7 fun m7 msA8 =>
 gS m7 fun Value1 =>
 gN msA8 <|
 idx L i fun y2 =>
 gA y2 fun cs3 =>
 gC cs3 fun m8 msA9 =>
 gI .i64 m8 fun By2 =>
 gC msA9 fun m9 msA10 =>
 gI .i64 m9 fun View2 =>
 gC msA10 fun m10 msA11 =>
 gS m10 fun Value2 =>
 gN msA11 <|
 some [.b (decide (By2 ≤ By1))]) (
 some [.b false]))) fun vs =>
 gC vs fun m11 msA12 =>
 gB m11 fun x1 =>
 gN msA12 <|
 ifB x1 (
 some (.inr (1, [.b false]))) (
 some (.inl [.i .i64 (IntKind.wrap .i64 (i + 1))]))) (
 some (.inr (2, [])))) [.i .i64 0]) fun p =>
 ifB (Nat.beq p.1 2) (
 gN p.2 <|
 some (.b true)) (
 chk (Nat.beq p.1 1) <|
 gC p.2 fun m12 msA13 =>
 gB m12 fun x2 =>
 gN msA13 <|
 some (.b x2))
theorem linkR18Right (t : MV) : bodyK cxR18Right [] none Try.f67 [t] = dR18Right t := by kernel_rfl
noncomputable def gR18Right : Nat → List MV → Option MV := addG 67 (lst1 dR18Right) gR18May
theorem soundR18Right : SoundG Try.prog cx gR18Right :=
  soundR18May.fn (c' := cxR18Right) (caps := []) ⟨rfl, rfl, rfl, rfl, rfl, rfl, rfl, rfl⟩ rfl tab_ok eq_ok fk_ok mt_ok mix_ok Try.func67 (by kernel_rfl) (fun _ => rfl) (lst1_of linkR18Right)

noncomputable def cxR07Proof : Ctx := ⟨lookT tiTab, kk, gR18Right, gv, frs, lookN ftyOf, lookG sigTab, [], 10, [], [], lookL [], lookF fkTab, lookM mtTab, lookL [], lookH [], lookH [], lookH []⟩
noncomputable def dR07Proof (sA : MV) : Option MV :=
 gA sA fun cs =>
 gC cs fun m msA =>
 gI .i64 m fun F =>
 gC msA fun m1 msA1 =>
 gI .i64 m1 fun T =>
 gN msA1 <|
 some (.i .i64 (IntKind.wrap .i64 ((IntKind.wrap .i64 ((IntKind.wrap .i64 (2 * F)) + T)) + 1)))
theorem linkR07Proof (sA : MV) : bodyK cxR07Proof [] none Try.f89 [sA] = dR07Proof sA := by kernel_rfl
noncomputable def gR07Proof : Nat → List MV → Option MV := addG 89 (lst1 dR07Proof) gR18Right
theorem soundR07Proof : SoundG Try.prog cx gR07Proof :=
  soundR18Right.fn (c' := cxR07Proof) (caps := []) ⟨rfl, rfl, rfl, rfl, rfl, rfl, rfl, rfl⟩ rfl tab_ok eq_ok fk_ok mt_ok mix_ok Try.func89 (by kernel_rfl) (fun _ => rfl) (lst1_of linkR07Proof)

noncomputable def cxR19Right : Ctx := ⟨lookT tiTab, kk, gR07Proof, gv, frs, lookN ftyOf, lookG sigTab, [], 70, [], [], lookL [], lookF fkTab, lookM mtTab, lookL [(7, [0, 1, 2, 3, 4, 5, 6, 7, 8, 9, 10, 11, 12, 13, 14, 15, 16, 17, 18, 19, 20, 21, 22, 23, 24, 25, 26, 27, 28, 29, 30, 31, 32, 33, 34, 35, 36, 37, 38, 39, 40, 41, 42])], lookH [(7, ⟨[1, 2, 5, 6], [], [], [(0, [(69, .sc (.k .b))])], []⟩), (1, ⟨[1, 2], [], [], [(0, [(16, .sc (.k .b))])], []⟩)], lookH [], lookH [(4, ⟨[1, 2], [], [(5, .sc (.k (.i .i64)))], [(1, [(4, .sc (.k .b))]), (2, [])], []⟩)]⟩
noncomputable def dR19Right (a a1 : MV) : Option MV :=
 gA a fun cs =>
 gC cs fun m msA =>
 gI .i64 m fun F =>
 gC msA fun m1 msA1 =>
 gI .i64 m1 fun T =>
 gN msA1 <|
 gL a1 fun a1N1 =>
 bd (
 bd (dR07Right (.agg [.i .i64 F, .i .i64 T])) fun rA =>
 gB rA fun x =>
 ifB (!x) (
 some [.b true]) (
 lenN a1N1 fun len =>
 bd (dR07Proof (.agg [.i .i64 F, .i .i64 T])) fun rA1 =>
 gI .i64 rA1 fun x1 =>
 some [.b (!decide ((len : Int) = x1))])) fun vs =>
 gC vs fun m2 msA2 =>
 gB m2 fun x2 =>
 gN msA2 <|
 ifB x2 (
 some (.b false)) (
 bd (Loop (fun msA3 =>
 gC msA3 fun m3 msA4 =>
 gI .i64 m3 fun x3 =>
 gN msA4 <|
 lenN a1N1 fun len1 =>
 ifB (decide (x3 < (len1 : Int))) (
 idx a1N1 x3 fun y =>
 gA y fun cs1 =>
 gC cs1 fun m4 msA5 =>
 gI .i64 m4 fun By =>
 gC msA5 fun m5 msA6 =>
 gI .i64 m5 fun View =>
 gC msA6 fun m6 msA7 =>
 gS m6 fun Value =>
 gN msA7 <|
 bd (
 bd (dR18May (.agg [.i .i64 By, .i .i64 View, .s Value])) fun rA2 =>
 gB rA2 fun x4 =>
 ifB (!x4) (
 some [.b true]) (
 bd (dR07N (.agg [.i .i64 F, .i .i64 T])) fun rA3 =>
 gI .i64 rA3 fun x5 =>
 ifB (decide (x5 ≤ By)) (
 some [.b true]) (
 idx a1N1 0 fun y1 =>
 gA y1 fun cs2 =>
 gC cs2 fun m7 msA8 =>
 gI .i64 m7 fun By1 =>
 gC msA8 fun m8 msA9 =>
 gI .i64 m8 fun View1 =>
 gC msA9 fun m9 msA10 =>
 gS m9 fun Value1 =>
 gN msA10 <|
 ifB (!decide (View = View1)) (
 some [.b true]) (
 idx a1N1 0 fun y2 =>
 gA y2 fun cs3 =>
 gC cs3 fun m10 msA11 =>
 gI .i64 m10 fun By2 =>
 gC msA11 fun m11 msA12 =>
 gI .i64 m11 fun View2 =>
 gC msA12 fun m12 msA13 =>
 gS m12 fun Value2 =>
 gN msA13 <|
 ifB (!decide (Value = Value2)) (
 some [.b true]) (
 ifB (decide ((0 : Int) < x3)) (
 idx a1N1 (IntKind.wrap .i64 (x3 - 1)) fun y3 =>
 gA y3 fun cs4 =>
 gC cs4 fun m13 msA14 =>
 gI .i64 m13 fun By3 =>
 gC msA14 fun m14 msA15 =>
 gI .i64 m14 fun View3 =>
 gC msA15 fun m15 msA16 =>
 gS m15 fun Value3 =>
 gN msA16 <|
 some [.b (decide (By ≤ By3))]) (
 some [.b false])))))) fun vs1 =>
 gC vs1 fun m16 msA17 =>
 gB m16 fun x6 =>
 gN msA17 <|
 ifB x6 (
 some (.inr (1, [.b false]))) (
 some (.inl [.i .i64 (IntKind.wrap .i64 (x3 + 1))]))) (
 some (.inr (2, [])))) [.i .i64 0]) fun p =>
 ifB (Nat.beq p.1 2) (
 gN p.2 <|
 some (.b true)) (
 chk (Nat.beq p.1 1) <|
 gC p.2 fun m17 msA18 =>
 gB m17 fun x7 =>
 gN msA18 <|
 some (.b x7)))
theorem linkR19Right (a a1 : MV) : bodyK cxR19Right [] none Try.f68 [a, a1] = dR19Right a a1 := by kernel_rfl
noncomputable def gR19Right : Nat → List MV → Option MV := addG 68 (lst2 dR19Right) gR07Proof
theorem soundR19Right : SoundG Try.prog cx gR19Right :=
  soundR07Proof.fn (c' := cxR19Right) (caps := []) ⟨rfl, rfl, rfl, rfl, rfl, rfl, rfl, rfl⟩ rfl tab_ok eq_ok fk_ok mt_ok mix_ok Try.func68 (by kernel_rfl) (fun _ => rfl) (lst2_of linkR19Right)

noncomputable def cxL22Votes : Ctx := ⟨lookT tiTab, kk, gR19Right, gv, frs, lookN ftyOf, lookG sigTab, [], 21, [], [], lookL [], lookF fkTab, lookM mtTab, lookL [], lookH [(4, ⟨[0, 3], [], [], [(0, [(20, .sc (.k .b))])], []⟩)], lookH [], lookH [(2, ⟨[0], [], [(3, .sc (.k (.i .i64)))], [(1, [(2, .sc (.k .b))]), (2, [])], []⟩)]⟩
noncomputable def dL22Votes (lA : MV) : Option MV :=
 gL lA fun lA1 =>
 bd (Loop (fun msA =>
 gC msA fun m msA1 =>
 gI .i64 m fun i =>
 gN msA1 <|
 lenN lA1 fun len =>
 ifB (decide (i < (len : Int))) (
 bd (
 ifB (decide (i = 40)) (
 some [.b true]) (
 idx lA1 i fun y =>
 gA y fun cs =>
 gC cs fun m1 msA2 =>
 gI .i64 m1 fun By =>
 gC msA2 fun m2 msA3 =>
 gI .i64 m2 fun View =>
 gC msA3 fun m3 msA4 =>
 gS m3 fun Value =>
 gN msA4 <|
 some [.b (decide ((6100 : Int) < (Value.length : Int)))])) fun vs =>
 gC vs fun m4 msA5 =>
 gB m4 fun x =>
 gN msA5 <|
 ifB x (
 some (.inr (1, [.b false]))) (
 some (.inl [.i .i64 (IntKind.wrap .i64 (i + 1))]))) (
 some (.inr (2, [])))) [.i .i64 0]) fun p =>
 ifB (Nat.beq p.1 2) (
 gN p.2 <|
 some (.b true)) (
 chk (Nat.beq p.1 1) <|
 gC p.2 fun m5 msA6 =>
 gB m5 fun x1 =>
 gN msA6 <|
 some (.b x1))
theorem linkL22Votes (lA : MV) : bodyK cxL22Votes [] none Try.f38 [lA] = dL22Votes lA := by kernel_rfl
noncomputable def gL22Votes : Nat → List MV → Option MV := addG 38 (lst1 dL22Votes) gR19Right
theorem soundL22Votes : SoundG Try.prog cx gL22Votes :=
  soundR19Right.fn (c' := cxL22Votes) (caps := []) ⟨rfl, rfl, rfl, rfl, rfl, rfl, rfl, rfl⟩ rfl tab_ok eq_ok fk_ok mt_ok mix_ok Try.func38 (by kernel_rfl) (fun _ => rfl) (lst1_of linkL22Votes)

noncomputable def cxLearnerNew : Ctx := ⟨lookT tiTab, kk, gL22Votes, gv, frs, lookN ftyOf, lookG sigTab, [], 10, [], [], lookL [], lookF fkTab, lookM mtTab, lookL [], lookH [], lookH [], lookH []⟩
noncomputable def dLearnerNew (sA : MV) : Option MV :=
 gA sA fun cs =>
 gC cs fun m msA =>
 gI .i64 m fun F =>
 gC msA fun m1 msA1 =>
 gI .i64 m1 fun T =>
 gN msA1 <|
 bd (dSizeRight (.agg [.i .i64 F, .i .i64 T])) fun rA =>
 gB rA fun x =>
 ifB (!x) (
 some (.tup [.agg [.i .i64 0, .i .i64 0, .list ([] : List MV), .list ([] : List MV), .list ([] : List MV), .b false, .s ([] : List UInt8)], .i .i64 1])) (
 some (.tup [.agg [.i .i64 F, .i .i64 T, .list ([] : List MV), .list ([] : List MV), .list ([] : List MV), .b false, .s ([] : List UInt8)], .i .i64 0]))
theorem linkLearnerNew (sA : MV) : bodyK cxLearnerNew [] none Try.f26 [sA] = dLearnerNew sA := by kernel_rfl
noncomputable def gLearnerNew : Nat → List MV → Option MV := addG 26 (lst1 dLearnerNew) gL22Votes
theorem soundLearnerNew : SoundG Try.prog cx gLearnerNew :=
  soundL22Votes.fn (c' := cxLearnerNew) (caps := []) ⟨rfl, rfl, rfl, rfl, rfl, rfl, rfl, rfl⟩ rfl tab_ok eq_ok fk_ok mt_ok mix_ok Try.func26 (by kernel_rfl) (fun _ => rfl) (lst1_of linkLearnerNew)

noncomputable def cxSizeWeak : Ctx := ⟨lookT tiTab, kk, gLearnerNew, gv, frs, lookN ftyOf, lookG sigTab, [], 5, [], [], lookL [], lookF fkTab, lookM mtTab, lookL [], lookH [], lookH [], lookH []⟩
noncomputable def dSizeWeak (sA : MV) : Option MV :=
 gA sA fun cs =>
 gC cs fun m msA =>
 gI .i64 m fun F =>
 gC msA fun m1 msA1 =>
 gI .i64 m1 fun T =>
 gN msA1 <|
 bd (dSizeSizeOf (.agg [.i .i64 F, .i .i64 T]) (.raw (.complex .f64 4607182418800017408 0))) fun rA =>
 gI .i64 rA fun x =>
 some (.i .i64 x)
theorem linkSizeWeak (sA : MV) : bodyK cxSizeWeak [] none Try.f48 [sA] = dSizeWeak sA := by kernel_rfl
noncomputable def gSizeWeak : Nat → List MV → Option MV := addG 48 (lst1 dSizeWeak) gLearnerNew
theorem soundSizeWeak : SoundG Try.prog cx gSizeWeak :=
  soundLearnerNew.fn (c' := cxSizeWeak) (caps := []) ⟨rfl, rfl, rfl, rfl, rfl, rfl, rfl, rfl⟩ rfl tab_ok eq_ok fk_ok mt_ok mix_ok Try.func48 (by kernel_rfl) (fun _ => rfl) (lst1_of linkSizeWeak)

noncomputable def cxCmpIsNaNInt : Ctx := ⟨lookT tiTab, kk, gSizeWeak, gv, frs, lookN ftyOf, lookG sigTab, [], 6, [], [], lookL [], lookF fkTab, lookM mtTab, lookL [], lookH [], lookH [], lookH []⟩
noncomputable def dCmpIsNaNInt (x : MV) : Option MV :=
 gI .i64 x fun x1 =>
 some (.b (!decide (x1 = x1)))
theorem linkCmpIsNaNInt (x : MV) : bodyK cxCmpIsNaNInt [] none Try.f133 [x] = dCmpIsNaNInt x := by kernel_rfl
noncomputable def gCmpIsNaNInt : Nat → List MV → Option MV := addG 133 (lst1 dCmpIsNaNInt) gSizeWeak
theorem soundCmpIsNaNInt : SoundG Try.prog cx gCmpIsNaNInt :=
  soundSizeWeak.fn (c' := cxCmpIsNaNInt) (caps := []) ⟨rfl, rfl, rfl, rfl, rfl, rfl, rfl, rfl⟩ rfl tab_ok eq_ok fk_ok mt_ok mix_ok Try.func133 (by kernel_rfl) (fun _ => rfl) (lst1_of linkCmpIsNaNInt)

noncomputable def cxCmpCompareInt : Ctx := ⟨lookT tiTab, kk, gCmpIsNaNInt, gv, frs, lookN ftyOf, lookG sigTab, [], 20, [], [], lookL [], lookF fkTab, lookM mtTab, lookL [], lookH [], lookH [], lookH []⟩
noncomputable def dCmpCompareInt (x y : MV) : Option MV :=
 gI .i64 x fun x1 =>
 gI .i64 y fun y1 =>
 bd (dCmpIsNaNInt (.i .i64 x1)) fun rA =>
 gB rA fun x2 =>
 bd (dCmpIsNaNInt (.i .i64 y1)) fun rA1 =>
 gB rA1 fun x3 =>
 ifB x2 (
 ifB x3 (
 some (.i .i64 0)) (
 some (.i .i64 (-1)))) (
 ifB x3 (
 some (.i .i64 1)) (
 ifB (decide (x1 < y1)) (
 some (.i .i64 (-1))) (
 ifB (decide (y1 < x1)) (
 some (.i .i64 1)) (
 some (.i .i64 0)))))
theorem linkCmpCompareInt (x y : MV) : bodyK cxCmpCompareInt [] none Try.f116 [x, y] = dCmpCompareInt x y := by kernel_rfl
noncomputable def gCmpCompareInt : Nat → List MV → Option MV := addG 116 (lst2 dCmpCompareInt) gCmpIsNaNInt
theorem soundCmpCompareInt : SoundG Try.prog cx gCmpCompareInt :=
  soundCmpIsNaNInt.fn (c' := cxCmpCompareInt) (caps := []) ⟨rfl, rfl, rfl, rfl, rfl, rfl, rfl, rfl⟩ rfl tab_ok eq_ok fk_ok mt_ok mix_ok Try.func116 (by kernel_rfl) (fun _ => rfl) (lst2_of linkCmpCompareInt)

noncomputable def cxTallyAddF1 : Ctx := ⟨lookT tiTab, kk, gCmpCompareInt, gv, frs, lookN ftyOf, lookG sigTab, [], 9, [], [], lookL [], lookF fkTab, lookM mtTab, lookL [], lookH [], lookH [], lookH []⟩
noncomputable def dTallyAddF1 (x byA : MV) : Option MV :=
 gA x fun cs =>
 gC cs fun m msA =>
 gI .i64 m fun By =>
 gC msA fun m1 msA1 =>
 gI .i64 m1 fun View =>
 gC msA1 fun m2 msA2 =>
 gS m2 fun Value =>
 gN msA2 <|
 gI .i64 byA fun byA1 =>
 bd (dCmpCompareInt (.i .i64 By) (.i .i64 byA1)) fun rA =>
 gI .i64 rA fun x1 =>
 some (.i .i64 x1)
theorem linkTallyAddF1 (x byA : MV) : bodyK cxTallyAddF1 [] none Try.f115 [x, byA] = dTallyAddF1 x byA := by kernel_rfl
noncomputable def gTallyAddF1 : Nat → List MV → Option MV := addG 115 (lst2 dTallyAddF1) gCmpCompareInt
theorem soundTallyAddF1 : SoundG Try.prog cx gTallyAddF1 :=
  soundCmpCompareInt.fn (c' := cxTallyAddF1) (caps := []) ⟨rfl, rfl, rfl, rfl, rfl, rfl, rfl, rfl⟩ rfl tab_ok eq_ok fk_ok mt_ok mix_ok Try.func115 (by kernel_rfl) (fun _ => rfl) (lst2_of linkTallyAddF1)
noncomputable def preSlicesBinarySearchFuncApiAcceptInt : Nat → List MV → Option MV := gTallyAddF1
theorem atSlicesBinarySearchFuncApiAcceptIntTallyAddF1 (x0 x1 : MV) : preSlicesBinarySearchFuncApiAcceptInt 115 [x0, x1] = dTallyAddF1 x0 x1 := by kernel_rfl

noncomputable def cxSlicesBinarySearchFuncApiAcceptInt : Ctx := ⟨lookT tiTab, kk, gTallyAddF1, gv, frs, lookN ftyOf, lookG sigTab, [], 49, [], [], lookL [], lookF fkTab, lookM mtTab, lookL [], lookH [(8, ⟨[0, 1, 2, 8, 9], [], [], [(0, [(6, .sc (.k (.i .i64))), (7, .sc (.k .b))])], []⟩)], lookH [(6, ⟨[0, 1, 2, 8, 11], [], [], [(0, [(9, .sc (.k (.i .i64))), (10, .sc (.k (.i .i64)))])], []⟩)], lookH [(3, ⟨[0, 1, 2, 8], [], [(9, .sc (.k (.i .i64))), (10, .sc (.k (.i .i64)))], [(2, [(9, .sc (.k (.i .i64)))])], []⟩)]⟩
noncomputable def dSlicesBinarySearchFuncApiAcceptInt (x target cmp : MV) : Option MV :=
 gL x fun x1 =>
 gI .i64 target fun target1 =>
 gR cmp fun cmp1 =>
 lenN x1 fun len =>
 bd (Loop (fun msA =>
 gC msA fun m msA1 =>
 gI .i64 m fun i =>
 gC msA1 fun m1 msA2 =>
 gI .i64 m1 fun j =>
 gN msA2 <|
 ifB (decide (i < j)) (
 chk (decide ((0 : Int) ≤ 1)) <|
 idx x1 (IntKind.wrap .i64 (Int.fdiv (IntKind.wrap .u64 (IntKind.wrap .i64 (i + j))) (2 ^ min (Int.toNat 1) (IntKind.bits .u64)))) fun y =>
 gA y fun cs =>
 gC cs fun m2 msA3 =>
 gI .i64 m2 fun By =>
 gC msA3 fun m3 msA4 =>
 gI .i64 m3 fun View =>
 gC msA4 fun m4 msA5 =>
 gS m4 fun Value =>
 gN msA5 <|
 gFn cmp1 fun fn cap =>
 chk (!gv fn) <|
 bd (preSlicesBinarySearchFuncApiAcceptInt fn ([.agg [.i .i64 By, .i .i64 View, .s Value], .i .i64 target1] ++ cap)) fun rA =>
 gI .i64 rA fun x2 =>
 bd (
 ifB (decide (x2 < 0)) (
 some (0, [.i .i64 (IntKind.wrap .i64 ((IntKind.wrap .i64 (Int.fdiv (IntKind.wrap .u64 (IntKind.wrap .i64 (i + j))) (2 ^ min (Int.toNat 1) (IntKind.bits .u64)))) + 1)), .i .i64 j])) (
 some (0, [.i .i64 i, .i .i64 (IntKind.wrap .i64 (Int.fdiv (IntKind.wrap .u64 (IntKind.wrap .i64 (i + j))) (2 ^ min (Int.toNat 1) (IntKind.bits .u64))))]))) fun p1 =>
 chk (Nat.beq p1.1 0) <|
 gC p1.2 fun m5 msA6 =>
 gI .i64 m5 fun i1 =>
 gC msA6 fun m6 msA7 =>
 gI .i64 m6 fun j1 =>
 gN msA7 <|
 some (.inl [.i .i64 i1, .i .i64 j1])) (
 some (.inr (2, [.i .i64 i])))) [.i .i64 0, .i .i64 (len : Int)]) fun p =>
 chk (Nat.beq p.1 2) <|
 gC p.2 fun m7 msA8 =>
 gI .i64 m7 fun i2 =>
 gN msA8 <|
 bd (
 ifB (decide (i2 < (len : Int))) (
 idx x1 i2 fun y1 =>
 gA y1 fun cs1 =>
 gC cs1 fun m8 msA9 =>
 gI .i64 m8 fun By1 =>
 gC msA9 fun m9 msA10 =>
 gI .i64 m9 fun View1 =>
 gC msA10 fun m10 msA11 =>
 gS m10 fun Value1 =>
 gN msA11 <|
 gFn cmp1 fun fn1 cap1 =>
 chk (!gv fn1) <|
 bd (preSlicesBinarySearchFuncApiAcceptInt fn1 ([.agg [.i .i64 By1, .i .i64 View1, .s Value1], .i .i64 target1] ++ cap1)) fun rA1 =>
 gI .i64 rA1 fun x3 =>
 some [.i .i64 i2, .b (decide (x3 = 0))]) (
 some [.i .i64 i2, .b false])) fun vs =>
 gC vs fun m11 msA12 =>
 gI .i64 m11 fun x4 =>
 gC msA12 fun m12 msA13 =>
 gB m12 fun x5 =>
 gN msA13 <|
 some (.tup [.i .i64 x4, .b x5])
theorem linkSlicesBinarySearchFuncApiAcceptInt (x target cmp : MV) : bodyK cxSlicesBinarySearchFuncApiAcceptInt [] none Try.f114 [x, target, cmp] = dSlicesBinarySearchFuncApiAcceptInt x target cmp := by kernel_rfl
noncomputable def gSlicesBinarySearchFuncApiAcceptInt : Nat → List MV → Option MV := addG 114 (lst3 dSlicesBinarySearchFuncApiAcceptInt) gTallyAddF1
theorem soundSlicesBinarySearchFuncApiAcceptInt : SoundG Try.prog cx gSlicesBinarySearchFuncApiAcceptInt :=
  soundTallyAddF1.fn (c' := cxSlicesBinarySearchFuncApiAcceptInt) (caps := []) ⟨rfl, rfl, rfl, rfl, rfl, rfl, rfl, rfl⟩ rfl tab_ok eq_ok fk_ok mt_ok mix_ok Try.func114 (by kernel_rfl) (fun _ => rfl) (lst3_of linkSlicesBinarySearchFuncApiAcceptInt)

noncomputable def cxTallyAdd : Ctx := ⟨lookT tiTab, kk, gSlicesBinarySearchFuncApiAcceptInt, gv, frs, lookN ftyOf, lookG sigTab, [], 49, [], [], lookL [], lookF fkTab, lookM mtTab, lookL [(4, [0, 1, 2, 3, 4, 5, 6, 7, 8, 9, 10, 11])], lookH [(4, ⟨[2, 3, 4, 6, 7], [], [], [(0, [(32, .sc (.k .b))])], [45, 46]⟩)], lookH [(8, ⟨[3, 4, 6], [], [], [(0, [(8, .sc (.own 36 72 false))])], [45, 46]⟩)], lookH []⟩
noncomputable def dTallyAdd (t a : MV) : Option MV :=
 gA t fun cs =>
 gC cs fun m msA =>
 gL m fun L =>
 gN msA <|
 gA a fun cs1 =>
 gC cs1 fun m1 msA1 =>
 gI .i64 m1 fun By =>
 gC msA1 fun m2 msA2 =>
 gI .i64 m2 fun View =>
 gC msA2 fun m3 msA3 =>
 gS m3 fun Value =>
 gN msA3 <|
 bd (dTallyMay (.agg [.i .i64 By, .i .i64 View, .s Value])) fun rA =>
 gB rA fun x =>
 ifB (!x) (
 some (.tup [.agg [.list L], .b false])) (
 bd (dSlicesBinarySearchFuncApiAcceptInt (.list L) (.i .i64 By) (.func 115 [])) fun rA1 =>
 gT rA1 fun vs =>
 gC vs fun m4 msA4 =>
 gI .i64 m4 fun x1 =>
 gC msA4 fun m5 msA5 =>
 gB m5 fun x2 =>
 gN msA5 <|
 bd (
 ifB x2 (
 idx L x1 fun y =>
 gA y fun cs2 =>
 gC cs2 fun m6 msA6 =>
 gI .i64 m6 fun By1 =>
 gC msA6 fun m7 msA7 =>
 gI .i64 m7 fun View1 =>
 gC msA7 fun m8 msA8 =>
 gS m8 fun Value1 =>
 gN msA8 <|
 some [.b (decide (View ≤ View1))]) (
 some [.b false])) fun vs1 =>
 gC vs1 fun m9 msA9 =>
 gB m9 fun x3 =>
 gN msA9 <|
 ifB x3 (
 some (.tup [.agg [.list L], .b false])) (
 bd (cloneF 3 32 [.list L]) fun rA2 =>
 gF rA2 fun xs =>
 bd (
 ifB x2 (
 idx xs x1 fun y1 =>
 gA y1 fun cs3 =>
 gC cs3 fun m10 msA10 =>
 gI .i64 m10 fun By2 =>
 gC msA10 fun m11 msA11 =>
 gI .i64 m11 fun View2 =>
 gC msA11 fun m12 msA12 =>
 gS m12 fun Value2 =>
 gN msA12 <|
 some (0, [.list (xs.set (Int.toNat x1) (.agg [.i .i64 By, .i .i64 View, .s Value]))])) (
 bd (insertF 32 [.fresh xs, .i .i64 x1, .fresh ([.agg [.i .i64 By, .i .i64 View, .s Value]] : List MV)]) fun rA3 =>
 gF rA3 fun xs1 =>
 some (0, [.list xs1]))) fun p =>
 chk (Nat.beq p.1 0) <|
 gC p.2 fun m13 msA13 =>
 gL m13 fun lA =>
 gN msA13 <|
 some (.tup [.agg [.list lA], .b true])))
theorem linkTallyAdd (t a : MV) : bodyK cxTallyAdd [] none Try.f94 [t, a] = dTallyAdd t a := by kernel_rfl
noncomputable def gTallyAdd : Nat → List MV → Option MV := addG 94 (lst2 dTallyAdd) gSlicesBinarySearchFuncApiAcceptInt
theorem soundTallyAdd : SoundG Try.prog cx gTallyAdd :=
  soundSlicesBinarySearchFuncApiAcceptInt.fn (c' := cxTallyAdd) (caps := []) ⟨rfl, rfl, rfl, rfl, rfl, rfl, rfl, rfl⟩ rfl tab_ok eq_ok fk_ok mt_ok mix_ok Try.func94 (by kernel_rfl) (fun _ => rfl) (lst2_of linkTallyAdd)

noncomputable def cxTallyBest : Ctx := ⟨lookT tiTab, kk, gTallyAdd, gv, frs, lookN ftyOf, lookG sigTab, [], 71, [], [], lookL [], lookF fkTab, lookM mtTab, lookL [(5, [0, 1, 2, 3, 4, 5, 6, 7, 8, 9, 10]), (17, [0, 1, 2, 3, 4, 5, 6])], lookH [(12, ⟨[1, 7, 10, 11, 14, 36, 37, 38], [], [], [(0, [(62, .sc (.k .b))])], []⟩)], lookH [(13, ⟨[1, 7, 14, 36, 37, 38], [], [], [(0, [(10, .box [.k (.i .i64), .k .s]), (11, .sc (.k .b))])], []⟩)], lookH [(9, ⟨[1, 7, 36, 37], [], [(10, .box [.k (.i .i64), .k .s]), (11, .sc (.k .b)), (38, .sc (.k (.i .i64)))], [(4, [(10, .box [.k (.i .i64), .k .s]), (11, .sc (.k .b))])], []⟩), (3, ⟨[1, 2, 17, 18], [], [(7, .mp ⟨true, [.i .i64, .s], false⟩), (19, .sc (.k (.i .i64)))], [(2, [(7, .mp ⟨true, [.i .i64, .s], false⟩)])], []⟩)]⟩
noncomputable def dTallyBest (a a1 : MV) : Option MV :=
 gA a fun cs =>
 gC cs fun m msA =>
 gL m fun L =>
 gN msA <|
 gI .i64 a1 fun a1N1 =>
 lenN L fun len =>
 bd (Loop (fun msA1 =>
 gC msA1 fun m1 msA2 =>
 gL m1 fun es =>
 gC msA2 fun m2 msA3 =>
 gI .i64 m2 fun x =>
 gN msA3 <|
 ifB (decide (x < (len : Int))) (
 idx L x fun y =>
 gA y fun cs1 =>
 gC cs1 fun m3 msA4 =>
 gI .i64 m3 fun By =>
 gC msA4 fun m4 msA5 =>
 gI .i64 m4 fun View =>
 gC msA5 fun m5 msA6 =>
 gS m5 fun Value =>
 gN msA6 <|
 chk (decide ((0 : Int) ≤ (midx es ([.i .i64 View, .s Value] : List MV) : Int) ∧ Int.toNat (midx es ([.i .i64 View, .s Value] : List MV) : Int) < (ment es ([.i .i64 View, .s Value] : List MV) (.i .i64 0)).length)) <|
 some (.inl [.list (mset (ment es ([.i .i64 View, .s Value] : List MV) (.i .i64 0)) (Int.toNat (midx es ([.i .i64 View, .s Value] : List MV) : Int)) (.i .i64 (IntKind.wrap .i64 ((mgetI es ([.i .i64 View, .s Value] : List MV)) + 1)))), .i .i64 (IntKind.wrap .i64 (x + 1))])) (
 some (.inr (2, [.list es])))) [.list ([] : List MV), .i .i64 0]) fun p =>
 chk (Nat.beq p.1 2) <|
 gC p.2 fun m6 msA7 =>
 gL m6 fun es1 =>
 gN msA7 <|
 lenN L fun len1 =>
 bd (Loop (fun msA8 =>
 gC msA8 fun m7 msA9 =>
 gI .i64 m7 fun x1 =>
 gC msA9 fun m8 msA10 =>
 gS m8 fun x2 =>
 gC msA10 fun m9 msA11 =>
 gB m9 fun x3 =>
 gC msA11 fun m10 msA12 =>
 gI .i64 m10 fun x4 =>
 gN msA12 <|
 ifB (decide (x4 < (len1 : Int))) (
 idx L x4 fun y1 =>
 gA y1 fun cs2 =>
 gC cs2 fun m11 msA13 =>
 gI .i64 m11 fun By1 =>
 gC msA13 fun m12 msA14 =>
 gI .i64 m12 fun View1 =>
 gC msA14 fun m13 msA15 =>
 gS m13 fun Value1 =>
 gN msA15 <|
 bd (
 ifB (decide ((1 : Int) ≤ a1N1)) (
 ifB (decide (a1N1 ≤ (mgetI es1 ([.i .i64 View1, .s Value1] : List MV)))) (
 some [.b (decide (x1 < View1))]) (
 some [.b false])) (
 some [.b false])) fun vs =>
 gC vs fun m14 msA16 =>
 gB m14 fun x5 =>
 gN msA16 <|
 bd (
 ifB x5 (
 some (0, [.i .i64 View1, .s Value1, .b true])) (
 some (0, [.i .i64 x1, .s x2, .b x3]))) fun p2 =>
 chk (Nat.beq p2.1 0) <|
 gC p2.2 fun m15 msA17 =>
 gI .i64 m15 fun x6 =>
 gC msA17 fun m16 msA18 =>
 gS m16 fun x7 =>
 gC msA18 fun m17 msA19 =>
 gB m17 fun x8 =>
 gN msA19 <|
 some (.inl [.i .i64 x6, .s x7, .b x8, .i .i64 (IntKind.wrap .i64 (x4 + 1))])) (
 some (.inr (4, [.i .i64 x1, .s x2, .b x3])))) [.i .i64 (-1), .s ([] : List UInt8), .b false, .i .i64 0]) fun p1 =>
 chk (Nat.beq p1.1 4) <|
 gC p1.2 fun m18 msA20 =>
 gI .i64 m18 fun x9 =>
 gC msA20 fun m19 msA21 =>
 gS m19 fun x10 =>
 gC msA21 fun m20 msA22 =>
 gB m20 fun x11 =>
 gN msA22 <|
 ifB (!x11) (
 some (.tup [.i .i64 0, .s ([] : List UInt8), .b false])) (
 some (.tup [.i .i64 x9, .s x10, .b true]))
theorem linkTallyBest (a a1 : MV) : bodyK cxTallyBest [] none Try.f108 [a, a1] = dTallyBest a a1 := by kernel_rfl
noncomputable def gTallyBest : Nat → List MV → Option MV := addG 108 (lst2 dTallyBest) gTallyAdd
theorem soundTallyBest : SoundG Try.prog cx gTallyBest :=
  soundTallyAdd.fn (c' := cxTallyBest) (caps := []) ⟨rfl, rfl, rfl, rfl, rfl, rfl, rfl, rfl⟩ rfl tab_ok eq_ok fk_ok mt_ok mix_ok Try.func108 (by kernel_rfl) (fun _ => rfl) (lst2_of linkTallyBest)

noncomputable def cxLearnerLearnerHears2 : Ctx := ⟨lookT tiTab, kk, gTallyBest, gv, frs, lookN ftyOf, lookG sigTab, [(1, 1002001)], 54, [], [], lookL [], lookF fkTab, lookM mtTab, lookL [(1, [0, 1, 2, 3, 4, 5, 6, 7, 8, 9, 10, 11, 12, 13, 14, 15, 16, 17, 18, 19]), (3, [0, 1, 2, 3, 4, 5, 6, 7, 8, 9, 10])], lookH [(1, ⟨[1, 3, 4, 6, 1002001], [], [], [(0, [(32, .sc (.k .b))])], []⟩)], lookH [], lookH []⟩
noncomputable def dLearnerLearnerHears2 (lA : MV) (t : List MV) (a : MV) (need : MV) : Option MV :=
 gA lA fun cs =>
 gC cs fun m msA =>
 gI .i64 m fun SF =>
 gC msA fun m1 msA1 =>
 gI .i64 m1 fun ST =>
 gC msA1 fun m2 msA2 =>
 gL m2 fun AcceptsL =>
 gC msA2 fun m3 msA3 =>
 gL m3 fun CommitsL =>
 gC msA3 fun m4 msA4 =>
 gL m4 fun ToldL =>
 gC msA4 fun m5 msA5 =>
 gB m5 fun Done =>
 gC msA5 fun m6 msA6 =>
 gS m6 fun Value =>
 gN msA6 <|
 gA a fun cs1 =>
 gC cs1 fun m7 msA7 =>
 gI .i64 m7 fun By =>
 gC msA7 fun m8 msA8 =>
 gI .i64 m8 fun View =>
 gC msA8 fun m9 msA9 =>
 gS m9 fun Value1 =>
 gN msA9 <|
 gI .i64 need fun need1 =>
 gC t fun m10 msA10 =>
 gI .i64 m10 fun SF1 =>
 gC msA10 fun m11 msA11 =>
 gI .i64 m11 fun ST1 =>
 gC msA11 fun m12 msA12 =>
 gL m12 fun AcceptsL1 =>
 gC msA12 fun m13 msA13 =>
 gL m13 fun CommitsL1 =>
 gC msA13 fun m14 msA14 =>
 gL m14 fun ToldL1 =>
 gC msA14 fun m15 msA15 =>
 gB m15 fun Done1 =>
 gC msA15 fun m16 msA16 =>
 gS m16 fun Value2 =>
 gN msA16 <|
 bd (
 ifB Done (
 some [.b true]) (
 ifB (decide (By < 0)) (
 some [.b true]) (
 bd (dSizeN (.agg [.i .i64 SF, .i .i64 ST])) fun rA =>
 gI .i64 rA fun x =>
 ifB (decide (x ≤ By)) (
 some [.b true]) (
 bd (dTallyMay (.agg [.i .i64 By, .i .i64 View, .s Value1])) fun rA1 =>
 gB rA1 fun x1 =>
 some [.b (!x1)])))) fun vs =>
 gC vs fun m17 msA17 =>
 gB m17 fun x2 =>
 gN msA17 <|
 ifB x2 (
 some (.wback (.tup [.b false, .s ([] : List UInt8)]) [.i .i64 SF1, .i .i64 ST1, .list AcceptsL1, .list CommitsL1, .list ToldL1, .b Done1, .s Value2])) (
 bd (dTallyAdd (.agg [.list AcceptsL1]) (.agg [.i .i64 By, .i .i64 View, .s Value1])) fun rA2 =>
 gT rA2 fun vs1 =>
 gC vs1 fun m18 msA18 =>
 gA m18 fun cs2 =>
 gC cs2 fun m19 msA19 =>
 gL m19 fun L =>
 gN msA19 <|
 gC msA18 fun m20 msA20 =>
 gB m20 fun x3 =>
 gN msA20 <|
 bd (dTallyBest (.agg [.list L]) (.i .i64 need1)) fun rA3 =>
 gT rA3 fun vs2 =>
 gC vs2 fun m21 msA21 =>
 gI .i64 m21 fun x4 =>
 gC msA21 fun m22 msA22 =>
 gS m22 fun x5 =>
 gC msA22 fun m23 msA23 =>
 gB m23 fun x6 =>
 gN msA23 <|
 some (.wback (.tup [.b x6, .s x5]) [.i .i64 SF1, .i .i64 ST1, .list L, .list CommitsL1, .list ToldL1, .b Done1, .s Value2]))
theorem linkLearnerLearnerHears2 (lA : MV) (t : List MV) (a : MV) (need : MV) : bodyC cxLearnerLearnerHears2 [] 1 sigK83 Try.f83 [lA, .cell (.func 2 t), a, need] = dLearnerLearnerHears2 lA t a need := by kernel_rfl

noncomputable def cxLearnerLearnerHears3 : Ctx := ⟨lookT tiTab, kk, gTallyBest, gv, frs, lookN ftyOf, lookG sigTab, [(1, 1003001)], 54, [], [], lookL [], lookF fkTab, lookM mtTab, lookL [(1, [0, 1, 2, 3, 4, 5, 6, 7, 8, 9, 10, 11, 12, 13, 14, 15, 16, 17, 18, 19]), (3, [0, 1, 2, 3, 4, 5, 6, 7, 8, 9, 10])], lookH [(1, ⟨[1, 3, 4, 6, 1003001], [], [], [(0, [(32, .sc (.k .b))])], []⟩)], lookH [], lookH []⟩
noncomputable def dLearnerLearnerHears3 (lA : MV) (t : List MV) (a : MV) (need : MV) : Option MV :=
 gA lA fun cs =>
 gC cs fun m msA =>
 gI .i64 m fun SF =>
 gC msA fun m1 msA1 =>
 gI .i64 m1 fun ST =>
 gC msA1 fun m2 msA2 =>
 gL m2 fun AcceptsL =>
 gC msA2 fun m3 msA3 =>
 gL m3 fun CommitsL =>
 gC msA3 fun m4 msA4 =>
 gL m4 fun ToldL =>
 gC msA4 fun m5 msA5 =>
 gB m5 fun Done =>
 gC msA5 fun m6 msA6 =>
 gS m6 fun Value =>
 gN msA6 <|
 gA a fun cs1 =>
 gC cs1 fun m7 msA7 =>
 gI .i64 m7 fun By =>
 gC msA7 fun m8 msA8 =>
 gI .i64 m8 fun View =>
 gC msA8 fun m9 msA9 =>
 gS m9 fun Value1 =>
 gN msA9 <|
 gI .i64 need fun need1 =>
 gC t fun m10 msA10 =>
 gI .i64 m10 fun SF1 =>
 gC msA10 fun m11 msA11 =>
 gI .i64 m11 fun ST1 =>
 gC msA11 fun m12 msA12 =>
 gL m12 fun AcceptsL1 =>
 gC msA12 fun m13 msA13 =>
 gL m13 fun CommitsL1 =>
 gC msA13 fun m14 msA14 =>
 gL m14 fun ToldL1 =>
 gC msA14 fun m15 msA15 =>
 gB m15 fun Done1 =>
 gC msA15 fun m16 msA16 =>
 gS m16 fun Value2 =>
 gN msA16 <|
 bd (
 ifB Done (
 some [.b true]) (
 ifB (decide (By < 0)) (
 some [.b true]) (
 bd (dSizeN (.agg [.i .i64 SF, .i .i64 ST])) fun rA =>
 gI .i64 rA fun x =>
 ifB (decide (x ≤ By)) (
 some [.b true]) (
 bd (dTallyMay (.agg [.i .i64 By, .i .i64 View, .s Value1])) fun rA1 =>
 gB rA1 fun x1 =>
 some [.b (!x1)])))) fun vs =>
 gC vs fun m17 msA17 =>
 gB m17 fun x2 =>
 gN msA17 <|
 ifB x2 (
 some (.wback (.tup [.b false, .s ([] : List UInt8)]) [.i .i64 SF1, .i .i64 ST1, .list AcceptsL1, .list CommitsL1, .list ToldL1, .b Done1, .s Value2])) (
 bd (dTallyAdd (.agg [.list CommitsL1]) (.agg [.i .i64 By, .i .i64 View, .s Value1])) fun rA2 =>
 gT rA2 fun vs1 =>
 gC vs1 fun m18 msA18 =>
 gA m18 fun cs2 =>
 gC cs2 fun m19 msA19 =>
 gL m19 fun L =>
 gN msA19 <|
 gC msA18 fun m20 msA20 =>
 gB m20 fun x3 =>
 gN msA20 <|
 bd (dTallyBest (.agg [.list L]) (.i .i64 need1)) fun rA3 =>
 gT rA3 fun vs2 =>
 gC vs2 fun m21 msA21 =>
 gI .i64 m21 fun x4 =>
 gC msA21 fun m22 msA22 =>
 gS m22 fun x5 =>
 gC msA22 fun m23 msA23 =>
 gB m23 fun x6 =>
 gN msA23 <|
 some (.wback (.tup [.b x6, .s x5]) [.i .i64 SF1, .i .i64 ST1, .list AcceptsL1, .list L, .list ToldL1, .b Done1, .s Value2]))
theorem linkLearnerLearnerHears3 (lA : MV) (t : List MV) (a : MV) (need : MV) : bodyC cxLearnerLearnerHears3 [] 1 sigK83 Try.f83 [lA, .cell (.func 3 t), a, need] = dLearnerLearnerHears3 lA t a need := by kernel_rfl

noncomputable def cxLearnerLearnerHears4 : Ctx := ⟨lookT tiTab, kk, gTallyBest, gv, frs, lookN ftyOf, lookG sigTab, [(1, 1004001)], 54, [], [], lookL [], lookF fkTab, lookM mtTab, lookL [(1, [0, 1, 2, 3, 4, 5, 6, 7, 8, 9, 10, 11, 12, 13, 14, 15, 16, 17, 18, 19]), (3, [0, 1, 2, 3, 4, 5, 6, 7, 8, 9, 10])], lookH [(1, ⟨[1, 3, 4, 6, 1004001], [], [], [(0, [(32, .sc (.k .b))])], []⟩)], lookH [], lookH []⟩
noncomputable def dLearnerLearnerHears4 (lA : MV) (t : List MV) (a : MV) (need : MV) : Option MV :=
 gA lA fun cs =>
 gC cs fun m msA =>
 gI .i64 m fun SF =>
 gC msA fun m1 msA1 =>
 gI .i64 m1 fun ST =>
 gC msA1 fun m2 msA2 =>
 gL m2 fun AcceptsL =>
 gC msA2 fun m3 msA3 =>
 gL m3 fun CommitsL =>
 gC msA3 fun m4 msA4 =>
 gL m4 fun ToldL =>
 gC msA4 fun m5 msA5 =>
 gB m5 fun Done =>
 gC msA5 fun m6 msA6 =>
 gS m6 fun Value =>
 gN msA6 <|
 gA a fun cs1 =>
 gC cs1 fun m7 msA7 =>
 gI .i64 m7 fun By =>
 gC msA7 fun m8 msA8 =>
 gI .i64 m8 fun View =>
 gC msA8 fun m9 msA9 =>
 gS m9 fun Value1 =>
 gN msA9 <|
 gI .i64 need fun need1 =>
 gC t fun m10 msA10 =>
 gI .i64 m10 fun SF1 =>
 gC msA10 fun m11 msA11 =>
 gI .i64 m11 fun ST1 =>
 gC msA11 fun m12 msA12 =>
 gL m12 fun AcceptsL1 =>
 gC msA12 fun m13 msA13 =>
 gL m13 fun CommitsL1 =>
 gC msA13 fun m14 msA14 =>
 gL m14 fun ToldL1 =>
 gC msA14 fun m15 msA15 =>
 gB m15 fun Done1 =>
 gC msA15 fun m16 msA16 =>
 gS m16 fun Value2 =>
 gN msA16 <|
 bd (
 ifB Done (
 some [.b true]) (
 ifB (decide (By < 0)) (
 some [.b true]) (
 bd (dSizeN (.agg [.i .i64 SF, .i .i64 ST])) fun rA =>
 gI .i64 rA fun x =>
 ifB (decide (x ≤ By)) (
 some [.b true]) (
 bd (dTallyMay (.agg [.i .i64 By, .i .i64 View, .s Value1])) fun rA1 =>
 gB rA1 fun x1 =>
 some [.b (!x1)])))) fun vs =>
 gC vs fun m17 msA17 =>
 gB m17 fun x2 =>
 gN msA17 <|
 ifB x2 (
 some (.wback (.tup [.b false, .s ([] : List UInt8)]) [.i .i64 SF1, .i .i64 ST1, .list AcceptsL1, .list CommitsL1, .list ToldL1, .b Done1, .s Value2])) (
 bd (dTallyAdd (.agg [.list ToldL1]) (.agg [.i .i64 By, .i .i64 View, .s Value1])) fun rA2 =>
 gT rA2 fun vs1 =>
 gC vs1 fun m18 msA18 =>
 gA m18 fun cs2 =>
 gC cs2 fun m19 msA19 =>
 gL m19 fun L =>
 gN msA19 <|
 gC msA18 fun m20 msA20 =>
 gB m20 fun x3 =>
 gN msA20 <|
 bd (dTallyBest (.agg [.list L]) (.i .i64 need1)) fun rA3 =>
 gT rA3 fun vs2 =>
 gC vs2 fun m21 msA21 =>
 gI .i64 m21 fun x4 =>
 gC msA21 fun m22 msA22 =>
 gS m22 fun x5 =>
 gC msA22 fun m23 msA23 =>
 gB m23 fun x6 =>
 gN msA23 <|
 some (.wback (.tup [.b x6, .s x5]) [.i .i64 SF1, .i .i64 ST1, .list AcceptsL1, .list CommitsL1, .list L, .b Done1, .s Value2]))
theorem linkLearnerLearnerHears4 (lA : MV) (t : List MV) (a : MV) (need : MV) : bodyC cxLearnerLearnerHears4 [] 1 sigK83 Try.f83 [lA, .cell (.func 4 t), a, need] = dLearnerLearnerHears4 lA t a need := by kernel_rfl
noncomputable abbrev FLearnerLearnerHears : List MV → Option MV := fun ms => match ms with | [a0, .cell (.func off a1), a2, a3] => (match Nat.beq off 2 with | true => dLearnerLearnerHears2 a0 a1 a2 a3 | false => (match Nat.beq off 3 with | true => dLearnerLearnerHears3 a0 a1 a2 a3 | false => (match Nat.beq off 4 with | true => dLearnerLearnerHears4 a0 a1 a2 a3 | false => none))) | _ => none
theorem FLearnerLearnerHears_of {ms : List MV} {r : MV} (h : FLearnerLearnerHears ms = some r) : ∃ c' : Ctx, Like cx c' ∧ c'.g = gTallyBest ∧ headC c' 83 Try.f83 [] = true ∧ bodyC c' [] 1 sigK83 Try.f83 ms = some r := by
  unfold FLearnerLearnerHears at h
  split at h
  · rename_i a0 off a1 a2 a3
    cases ho2 : Nat.beq off 2 with
    | true =>
      have := Nat.eq_of_beq_eq_true ho2
      subst this
      exact ⟨cxLearnerLearnerHears2, ⟨rfl, rfl, rfl, rfl, rfl, rfl, rfl, rfl⟩, rfl, by kernel_rfl, (linkLearnerLearnerHears2 _ _ _ _).trans h⟩
    | false =>
    rw [ho2] at h
    simp only at h
    cases ho3 : Nat.beq off 3 with
    | true =>
      have := Nat.eq_of_beq_eq_true ho3
      subst this
      exact ⟨cxLearnerLearnerHears3, ⟨rfl, rfl, rfl, rfl, rfl, rfl, rfl, rfl⟩, rfl, by kernel_rfl, (linkLearnerLearnerHears3 _ _ _ _).trans h⟩
    | false =>
    rw [ho3] at h
    simp only at h
    cases ho4 : Nat.beq off 4 with
    | true =>
      have := Nat.eq_of_beq_eq_true ho4
      subst this
      exact ⟨cxLearnerLearnerHears4, ⟨rfl, rfl, rfl, rfl, rfl, rfl, rfl, rfl⟩, rfl, by kernel_rfl, (linkLearnerLearnerHears4 _ _ _ _).trans h⟩
    | false =>
    rw [ho4] at h
    simp only at h
    cases h
  · cases h
noncomputable def gLearnerLearnerHears : Nat → List MV → Option MV := addG 83 FLearnerLearnerHears gTallyBest
theorem soundLearnerLearnerHears : SoundG Try.prog cx gLearnerLearnerHears :=
  soundTallyBest.fnC (pos := 1) (ks := sigK83) (caps := []) tab_ok eq_ok fk_ok mt_ok mix_ok Try.func83 (by kernel_rfl) (fun _ => rfl) FLearnerLearnerHears_of

noncomputable def cxLearnerTold : Ctx := ⟨lookT tiTab, kk, gLearnerLearnerHears, gv, frs, lookN ftyOf, lookG sigTab, [], 26, [], [], lookL [], lookF fkTab, lookM mtTab, lookL [(1, [0, 1, 2, 3, 4, 5, 6, 7, 8, 9, 10, 11, 12, 13])], lookH [], lookH [(3, ⟨[6, 8], [], [], [(0, [(3, .box [.k (.i .i64), .k (.i .i64), .k .l, .k .l, .k .l, .k .b, .k .s])])], []⟩)], lookH []⟩
noncomputable def dLearnerTold (lA byA value : MV) : Option MV :=
 gA lA fun cs =>
 gC cs fun m msA =>
 gI .i64 m fun SF =>
 gC msA fun m1 msA1 =>
 gI .i64 m1 fun ST =>
 gC msA1 fun m2 msA2 =>
 gL m2 fun AcceptsL =>
 gC msA2 fun m3 msA3 =>
 gL m3 fun CommitsL =>
 gC msA3 fun m4 msA4 =>
 gL m4 fun ToldL =>
 gC msA4 fun m5 msA5 =>
 gB m5 fun Done =>
 gC msA5 fun m6 msA6 =>
 gS m6 fun Value =>
 gN msA6 <|
 gI .i64 byA fun byA1 =>
 gS value fun value1 =>
 bd (dSizeWeak (.agg [.i .i64 SF, .i .i64 ST])) fun rA =>
 gI .i64 rA fun x =>
 bd (dLearnerLearnerHears4 (.agg [.i .i64 SF, .i .i64 ST, .list AcceptsL, .list CommitsL, .list ToldL, .b Done, .s Value]) [.i .i64 SF, .i .i64 ST, .list AcceptsL, .list CommitsL, .list ToldL, .b Done, .s Value] (.agg [.i .i64 byA1, .i .i64 0, .s value1]) (.i .i64 x)) fun rA1 =>
 gW rA1 fun x1 ls =>
 gC ls fun m7 msA7 =>
 gI .i64 m7 fun SF1 =>
 gC msA7 fun m8 msA8 =>
 gI .i64 m8 fun ST1 =>
 gC msA8 fun m9 msA9 =>
 gL m9 fun AcceptsL1 =>
 gC msA9 fun m10 msA10 =>
 gL m10 fun CommitsL1 =>
 gC msA10 fun m11 msA11 =>
 gL m11 fun ToldL1 =>
 gC msA11 fun m12 msA12 =>
 gB m12 fun Done1 =>
 gC msA12 fun m13 msA13 =>
 gS m13 fun Value1 =>
 gN msA13 <|
 gT x1 fun vs =>
 gC vs fun m14 msA14 =>
 gB m14 fun x2 =>
 gC msA14 fun m15 msA15 =>
 gS m15 fun x3 =>
 gN msA15 <|
 bd (
 ifB x2 (
 some (0, [.i .i64 SF1, .i .i64 ST1, .list AcceptsL1, .list CommitsL1, .list ToldL1, .b true, .s x3])) (
 some (0, [.i .i64 SF1, .i .i64 ST1, .list AcceptsL1, .list CommitsL1, .list ToldL1, .b Done1, .s Value1]))) fun p =>
 chk (Nat.beq p.1 0) <|
 gC p.2 fun m16 msA16 =>
 gI .i64 m16 fun lA1 =>
 gC msA16 fun m17 msA17 =>
 gI .i64 m17 fun lA2 =>
 gC msA17 fun m18 msA18 =>
 gL m18 fun lA3 =>
 gC msA18 fun m19 msA19 =>
 gL m19 fun lA4 =>
 gC msA19 fun m20 msA20 =>
 gL m20 fun lA5 =>
 gC msA20 fun m21 msA21 =>
 gB m21 fun lA6 =>
 gC msA21 fun m22 msA22 =>
 gS m22 fun lA7 =>
 gN msA22 <|
 some (.agg [.i .i64 lA1, .i .i64 lA2, .list lA3, .list lA4, .list lA5, .b lA6, .s lA7])
theorem linkLearnerTold (lA byA value : MV) : bodyK cxLearnerTold [] none Try.f43 [lA, byA, value] = dLearnerTold lA byA value := by kernel_rfl
noncomputable def gLearnerTold : Nat → List MV → Option MV := addG 43 (lst3 dLearnerTold) gLearnerLearnerHears
theorem soundLearnerTold : SoundG Try.prog cx gLearnerTold :=
  soundLearnerLearnerHears.fn (c' := cxLearnerTold) (caps := []) ⟨rfl, rfl, rfl, rfl, rfl, rfl, rfl, rfl⟩ rfl tab_ok eq_ok fk_ok mt_ok mix_ok Try.func43 (by kernel_rfl) (fun _ => rfl) (lst3_of linkLearnerTold)

noncomputable def cxL22Alive : Ctx := ⟨lookT tiTab, kk, gLearnerTold, gv, frs, lookN ftyOf, lookG sigTab, [], 36, [], [], lookL [], lookF fkTab, lookM mtTab, lookL [], lookH [(4, ⟨[1, 2, 3], [], [], [(0, [(0, .sc (.k .b))])], []⟩)], lookH [], lookH []⟩
noncomputable def dL22Alive : Option MV :=
 bd (dLearnerNew (.agg [.i .i64 1, .i .i64 0])) fun rA =>
 gT rA fun vs =>
 gC vs fun m msA =>
 gA m fun cs =>
 gC cs fun m1 msA1 =>
 gI .i64 m1 fun SF =>
 gC msA1 fun m2 msA2 =>
 gI .i64 m2 fun ST =>
 gC msA2 fun m3 msA3 =>
 gL m3 fun AcceptsL =>
 gC msA3 fun m4 msA4 =>
 gL m4 fun CommitsL =>
 gC msA4 fun m5 msA5 =>
 gL m5 fun ToldL =>
 gC msA5 fun m6 msA6 =>
 gB m6 fun Done =>
 gC msA6 fun m7 msA7 =>
 gS m7 fun Value =>
 gN msA7 <|
 gC msA fun m8 msA8 =>
 gI .i64 m8 fun x =>
 gN msA8 <|
 bd (dLearnerTold (.agg [.i .i64 SF, .i .i64 ST, .list AcceptsL, .list CommitsL, .list ToldL, .b Done, .s Value]) (.i .i64 0) (.s ([120] : List UInt8))) fun rA1 =>
 gA rA1 fun cs1 =>
 gC cs1 fun m9 msA9 =>
 gI .i64 m9 fun SF1 =>
 gC msA9 fun m10 msA10 =>
 gI .i64 m10 fun ST1 =>
 gC msA10 fun m11 msA11 =>
 gL m11 fun AcceptsL1 =>
 gC msA11 fun m12 msA12 =>
 gL m12 fun CommitsL1 =>
 gC msA12 fun m13 msA13 =>
 gL m13 fun ToldL1 =>
 gC msA13 fun m14 msA14 =>
 gB m14 fun Done1 =>
 gC msA14 fun m15 msA15 =>
 gS m15 fun Value1 =>
 gN msA15 <|
 bd (dLearnerTold (.agg [.i .i64 SF1, .i .i64 ST1, .list AcceptsL1, .list CommitsL1, .list ToldL1, .b Done1, .s Value1]) (.i .i64 3) (.s ([120] : List UInt8))) fun rA2 =>
 gA rA2 fun cs2 =>
 gC cs2 fun m16 msA16 =>
 gI .i64 m16 fun SF2 =>
 gC msA16 fun m17 msA17 =>
 gI .i64 m17 fun ST2 =>
 gC msA17 fun m18 msA18 =>
 gL m18 fun AcceptsL2 =>
 gC msA18 fun m19 msA19 =>
 gL m19 fun CommitsL2 =>
 gC msA19 fun m20 msA20 =>
 gL m20 fun ToldL2 =>
 gC msA20 fun m21 msA21 =>
 gB m21 fun Done2 =>
 gC msA21 fun m22 msA22 =>
 gS m22 fun Value2 =>
 gN msA22 <|
 bd (
 ifB (decide (x = 0)) (
 ifB (!Done1) (
 ifB Done2 (
 ifB (decide (Value2 = ([120] : List UInt8))) (
 lenN ToldL2 fun len =>
 some [.b (decide ((len : Int) = 2))]) (
 some [.b false])) (
 some [.b false])) (
 some [.b false])) (
 some [.b false])) fun vs1 =>
 gC vs1 fun m23 msA23 =>
 gB m23 fun x1 =>
 gN msA23 <|
 some (.b x1)
theorem linkL22Alive : bodyK cxL22Alive [] none Try.f25 [] = dL22Alive  := by kernel_rfl
noncomputable def gL22Alive : Nat → List MV → Option MV := addG 25 (lst0 dL22Alive) gLearnerTold
theorem soundL22Alive : SoundG Try.prog cx gL22Alive :=
  soundLearnerTold.fn (c' := cxL22Alive) (caps := []) ⟨rfl, rfl, rfl, rfl, rfl, rfl, rfl, rfl⟩ rfl tab_ok eq_ok fk_ok mt_ok mix_ok Try.func25 (by kernel_rfl) (fun _ => rfl) (lst0_of linkL22Alive)

noncomputable def cxL22Sized : Ctx := ⟨lookT tiTab, kk, gL22Alive, gv, frs, lookN ftyOf, lookG sigTab, [], 8, [], [], lookL [], lookF fkTab, lookM mtTab, lookL [], lookH [], lookH [], lookH []⟩
noncomputable def dL22Sized (sA : MV) : Option MV :=
 gA sA fun cs =>
 gC cs fun m msA =>
 gI .i64 m fun F =>
 gC msA fun m1 msA1 =>
 gI .i64 m1 fun T =>
 gN msA1 <|
 some (.agg [.i .i64 F, .i .i64 T])
theorem linkL22Sized (sA : MV) : bodyK cxL22Sized [] none Try.f28 [sA] = dL22Sized sA := by kernel_rfl
noncomputable def gL22Sized : Nat → List MV → Option MV := addG 28 (lst1 dL22Sized) gL22Alive
theorem soundL22Sized : SoundG Try.prog cx gL22Sized :=
  soundL22Alive.fn (c' := cxL22Sized) (caps := []) ⟨rfl, rfl, rfl, rfl, rfl, rfl, rfl, rfl⟩ rfl tab_ok eq_ok fk_ok mt_ok mix_ok Try.func28 (by kernel_rfl) (fun _ => rfl) (lst1_of linkL22Sized)

noncomputable def cxR22Below : Ctx := ⟨lookT tiTab, kk, gL22Sized, gv, frs, lookN ftyOf, lookG sigTab, [], 36, [], [], lookL [], lookF fkTab, lookM mtTab, lookL [(4, [0, 1, 2, 3, 4, 5, 6, 7, 8, 9, 10, 11, 12, 13, 14, 15, 16, 17, 18])], lookH [(4, ⟨[2, 3, 4, 7], [], [], [(0, [(33, .sc (.k .b))])], []⟩)], lookH [], lookH [(2, ⟨[2, 3, 4], [], [(7, .sc (.k (.i .i64)))], [(1, [(6, .sc (.k .b))]), (2, [])], []⟩)]⟩
noncomputable def dR22Below (sA t last : MV) : Option MV :=
 gA sA fun cs =>
 gC cs fun m msA =>
 gI .i64 m fun F =>
 gC msA fun m1 msA1 =>
 gI .i64 m1 fun T =>
 gN msA1 <|
 gA t fun cs1 =>
 gC cs1 fun m2 msA2 =>
 gL m2 fun L =>
 gN msA2 <|
 gI .i64 last fun last1 =>
 bd (Loop (fun msA3 =>
 gC msA3 fun m3 msA4 =>
 gI .i64 m3 fun i =>
 gN msA4 <|
 lenN L fun len =>
 ifB (decide (i < (len : Int))) (
 bd (
 idx L i fun y =>
 gA y fun cs2 =>
 gC cs2 fun m4 msA5 =>
 gI .i64 m4 fun By =>
 gC msA5 fun m5 msA6 =>
 gI .i64 m5 fun View =>
 gC msA6 fun m6 msA7 =>
 gS m6 fun Value =>
 gN msA7 <|
 bd (dR07N (.agg [.i .i64 F, .i .i64 T])) fun rA =>
 gI .i64 rA fun x =>
 ifB (decide (x ≤ By)) (
 some [.b true]) (
 idx L i fun y1 =>
 gA y1 fun cs3 =>
 gC cs3 fun m7 msA8 =>
 gI .i64 m7 fun By1 =>
 gC msA8 fun m8 msA9 =>
 gI .i64 m8 fun View1 =>
 gC msA9 fun m9 msA10 =>
 gS m9 fun Value1 =>
 gN msA10 <|
 some [.b (decide (last1 < View1))])) fun vs =>
 gC vs fun m10 msA11 =>
 gB m10 fun x1 =>
 gN msA11 <|
 ifB x1 (
 some (.inr (1, [.b false]))) (
 some (.inl [.i .i64 (IntKind.wrap .i64 (i + 1))]))) (
 some (.inr (2, [])))) [.i .i64 0]) fun p =>
 ifB (Nat.beq p.1 2) (
 gN p.2 <|
 bd (dR18Right (.agg [.list L])) fun rA1 =>
 gB rA1 fun x2 =>
 some (.b x2)) (
 chk (Nat.beq p.1 1) <|
 gC p.2 fun m11 msA12 =>
 gB m11 fun x3 =>
 gN msA12 <|
 some (.b x3))
theorem linkR22Below (sA t last : MV) : bodyK cxR22Below [] none Try.f70 [sA, t, last] = dR22Below sA t last := by kernel_rfl
noncomputable def gR22Below : Nat → List MV → Option MV := addG 70 (lst3 dR22Below) gL22Sized
theorem soundR22Below : SoundG Try.prog cx gR22Below :=
  soundL22Sized.fn (c' := cxR22Below) (caps := []) ⟨rfl, rfl, rfl, rfl, rfl, rfl, rfl, rfl⟩ rfl tab_ok eq_ok fk_ok mt_ok mix_ok Try.func70 (by kernel_rfl) (fun _ => rfl) (lst3_of linkR22Below)

noncomputable def cxR22Right : Ctx := ⟨lookT tiTab, kk, gR22Below, gv, frs, lookN ftyOf, lookG sigTab, [], 42, [], [], lookL [], lookF fkTab, lookM mtTab, lookL [], lookH [(3, ⟨[1], [], [], [(0, [(2, .sc (.k .b))])], []⟩), (1, ⟨[1], [], [], [(0, [(22, .sc (.k .b))])], []⟩)], lookH [], lookH []⟩
noncomputable def dR22Right (lA : MV) : Option MV :=
 gA lA fun cs =>
 gC cs fun m msA =>
 gI .i64 m fun SF =>
 gC msA fun m1 msA1 =>
 gI .i64 m1 fun ST =>
 gC msA1 fun m2 msA2 =>
 gL m2 fun AcceptsL =>
 gC msA2 fun m3 msA3 =>
 gL m3 fun CommitsL =>
 gC msA3 fun m4 msA4 =>
 gL m4 fun ToldL =>
 gC msA4 fun m5 msA5 =>
 gB m5 fun Done =>
 gC msA5 fun m6 msA6 =>
 gS m6 fun Value =>
 gN msA6 <|
 bd (
 bd (dR07Right (.agg [.i .i64 SF, .i .i64 ST])) fun rA =>
 gB rA fun x =>
 ifB (!x) (
 some [.b true]) (
 ifB (decide ((6000 : Int) < (Value.length : Int))) (
 some [.b true]) (
 ifB (!Done) (
 some [.b (!decide (Value = ([] : List UInt8)))]) (
 some [.b false])))) fun vs =>
 gC vs fun m7 msA7 =>
 gB m7 fun x1 =>
 gN msA7 <|
 ifB x1 (
 some (.b false)) (
 bd (
 bd (dR22Below (.agg [.i .i64 SF, .i .i64 ST]) (.agg [.list AcceptsL]) (.i .i64 100000)) fun rA1 =>
 gB rA1 fun x2 =>
 ifB x2 (
 bd (dR22Below (.agg [.i .i64 SF, .i .i64 ST]) (.agg [.list CommitsL]) (.i .i64 100000)) fun rA2 =>
 gB rA2 fun x3 =>
 ifB x3 (
 bd (dR22Below (.agg [.i .i64 SF, .i .i64 ST]) (.agg [.list ToldL]) (.i .i64 0)) fun rA3 =>
 gB rA3 fun x4 =>
 some [.b x4]) (
 some [.b false])) (
 some [.b false])) fun vs1 =>
 gC vs1 fun m8 msA8 =>
 gB m8 fun x5 =>
 gN msA8 <|
 some (.b x5))
theorem linkR22Right (lA : MV) : bodyK cxR22Right [] none Try.f30 [lA] = dR22Right lA := by kernel_rfl
noncomputable def gR22Right : Nat → List MV → Option MV := addG 30 (lst1 dR22Right) gR22Below
theorem soundR22Right : SoundG Try.prog cx gR22Right :=
  soundR22Below.fn (c' := cxR22Right) (caps := []) ⟨rfl, rfl, rfl, rfl, rfl, rfl, rfl, rfl⟩ rfl tab_ok eq_ok fk_ok mt_ok mix_ok Try.func30 (by kernel_rfl) (fun _ => rfl) (lst1_of linkR22Right)

noncomputable def cxL22Plain : Ctx := ⟨lookT tiTab, kk, gR22Right, gv, frs, lookN ftyOf, lookG sigTab, [], 23, [], [], lookL [], lookF fkTab, lookM mtTab, lookL [(1, [0, 1, 3, 4, 5, 6, 7, 8, 9, 10, 11, 12, 13, 14, 15, 16, 17, 18, 2, 19, 20])], lookH [], lookH [], lookH []⟩
noncomputable def dL22Plain (lA : MV) : Option MV :=
 gA lA fun cs =>
 gC cs fun m msA =>
 gI .i64 m fun SF =>
 gC msA fun m1 msA1 =>
 gI .i64 m1 fun ST =>
 gC msA1 fun m2 msA2 =>
 gL m2 fun AcceptsL =>
 gC msA2 fun m3 msA3 =>
 gL m3 fun CommitsL =>
 gC msA3 fun m4 msA4 =>
 gL m4 fun ToldL =>
 gC msA4 fun m5 msA5 =>
 gB m5 fun Done =>
 gC msA5 fun m6 msA6 =>
 gS m6 fun Value =>
 gN msA6 <|
 bd (dL22Sized (.agg [.i .i64 SF, .i .i64 ST])) fun rA =>
 gA rA fun cs1 =>
 gC cs1 fun m7 msA7 =>
 gI .i64 m7 fun F =>
 gC msA7 fun m8 msA8 =>
 gI .i64 m8 fun T =>
 gN msA8 <|
 some (.agg [.i .i64 F, .i .i64 T, .list AcceptsL, .list CommitsL, .list ToldL, .b Done, .s Value])
theorem linkL22Plain (lA : MV) : bodyK cxL22Plain [] none Try.f31 [lA] = dL22Plain lA := by kernel_rfl
noncomputable def gL22Plain : Nat → List MV → Option MV := addG 31 (lst1 dL22Plain) gR22Right
theorem soundL22Plain : SoundG Try.prog cx gL22Plain :=
  soundR22Right.fn (c' := cxL22Plain) (caps := []) ⟨rfl, rfl, rfl, rfl, rfl, rfl, rfl, rfl⟩ rfl tab_ok eq_ok fk_ok mt_ok mix_ok Try.func31 (by kernel_rfl) (fun _ => rfl) (lst1_of linkL22Plain)

noncomputable def cxLearnerSame : Ctx := ⟨lookT tiTab, kk, gL22Plain, gv, frs, lookN ftyOf, lookG sigTab, [], 53, [], [], lookL [], lookF fkTab, lookM mtTab, lookL [], lookH [(2, ⟨[2, 3, 5], [], [], [(0, [(4, .sc (.k .b))])], []⟩), (1, ⟨[2, 3], [], [], [(0, [(5, .sc (.k .b))])], []⟩)], lookH [], lookH []⟩
noncomputable def dLearnerSame (a b : MV) : Option MV :=
 gA a fun cs =>
 gC cs fun m msA =>
 gI .i64 m fun SF =>
 gC msA fun m1 msA1 =>
 gI .i64 m1 fun ST =>
 gC msA1 fun m2 msA2 =>
 gL m2 fun AcceptsL =>
 gC msA2 fun m3 msA3 =>
 gL m3 fun CommitsL =>
 gC msA3 fun m4 msA4 =>
 gL m4 fun ToldL =>
 gC msA4 fun m5 msA5 =>
 gB m5 fun Done =>
 gC msA5 fun m6 msA6 =>
 gS m6 fun Value =>
 gN msA6 <|
 gA b fun cs1 =>
 gC cs1 fun m7 msA7 =>
 gI .i64 m7 fun SF1 =>
 gC msA7 fun m8 msA8 =>
 gI .i64 m8 fun ST1 =>
 gC msA8 fun m9 msA9 =>
 gL m9 fun AcceptsL1 =>
 gC msA9 fun m10 msA10 =>
 gL m10 fun CommitsL1 =>
 gC msA10 fun m11 msA11 =>
 gL m11 fun ToldL1 =>
 gC msA11 fun m12 msA12 =>
 gB m12 fun Done1 =>
 gC msA12 fun m13 msA13 =>
 gS m13 fun Value1 =>
 gN msA13 <|
 bd (
 ifB ((decide (SF = SF1)) && (decide (ST = ST1))) (
 ifB (decide (Done = Done1)) (
 some [.b (decide (Value = Value1))]) (
 some [.b false])) (
 some [.b false])) fun vs =>
 gC vs fun m14 msA14 =>
 gB m14 fun one =>
 gN msA14 <|
 bd (
 ifB one (
 bd (dTallySame (.list AcceptsL) (.list AcceptsL1)) fun rA =>
 gB rA fun x =>
 ifB x (
 bd (dTallySame (.list CommitsL) (.list CommitsL1)) fun rA1 =>
 gB rA1 fun x1 =>
 ifB x1 (
 bd (dTallySame (.list ToldL) (.list ToldL1)) fun rA2 =>
 gB rA2 fun x2 =>
 some [.b x2]) (
 some [.b false])) (
 some [.b false])) (
 some [.b false])) fun vs1 =>
 gC vs1 fun m15 msA15 =>
 gB m15 fun x3 =>
 gN msA15 <|
 some (.b x3)
theorem linkLearnerSame (a b : MV) : bodyK cxLearnerSame [] none Try.f32 [a, b] = dLearnerSame a b := by kernel_rfl
noncomputable def gLearnerSame : Nat → List MV → Option MV := addG 32 (lst2 dLearnerSame) gL22Plain
theorem soundLearnerSame : SoundG Try.prog cx gLearnerSame :=
  soundL22Plain.fn (c' := cxLearnerSame) (caps := []) ⟨rfl, rfl, rfl, rfl, rfl, rfl, rfl, rfl⟩ rfl tab_ok eq_ok fk_ok mt_ok mix_ok Try.func32 (by kernel_rfl) (fun _ => rfl) (lst2_of linkLearnerSame)

noncomputable def cxSizeFast : Ctx := ⟨lookT tiTab, kk, gLearnerSame, gv, frs, lookN ftyOf, lookG sigTab, [], 5, [], [], lookL [], lookF fkTab, lookM mtTab, lookL [], lookH [], lookH [], lookH []⟩
noncomputable def dSizeFast (sA : MV) : Option MV :=
 gA sA fun cs =>
 gC cs fun m msA =>
 gI .i64 m fun F =>
 gC msA fun m1 msA1 =>
 gI .i64 m1 fun T =>
 gN msA1 <|
 bd (dSizeSizeOf (.agg [.i .i64 F, .i .i64 T]) (.raw (.complex .f64 4613937818241073152 4607182418800017408))) fun rA =>
 gI .i64 rA fun x =>
 some (.i .i64 x)
theorem linkSizeFast (sA : MV) : bodyK cxSizeFast [] none Try.f47 [sA] = dSizeFast sA := by kernel_rfl
noncomputable def gSizeFast : Nat → List MV → Option MV := addG 47 (lst1 dSizeFast) gLearnerSame
theorem soundSizeFast : SoundG Try.prog cx gSizeFast :=
  soundLearnerSame.fn (c' := cxSizeFast) (caps := []) ⟨rfl, rfl, rfl, rfl, rfl, rfl, rfl, rfl⟩ rfl tab_ok eq_ok fk_ok mt_ok mix_ok Try.func47 (by kernel_rfl) (fun _ => rfl) (lst1_of linkSizeFast)

noncomputable def cxLearnerAccepted : Ctx := ⟨lookT tiTab, kk, gSizeFast, gv, frs, lookN ftyOf, lookG sigTab, [], 22, [], [], lookL [], lookF fkTab, lookM mtTab, lookL [(1, [0, 1, 2, 3, 4, 5, 6, 7, 8, 9, 10, 11])], lookH [], lookH [(3, ⟨[4, 6], [], [], [(0, [(2, .box [.k (.i .i64), .k (.i .i64), .k .l, .k .l, .k .l, .k .b, .k .s])])], []⟩)], lookH []⟩
noncomputable def dLearnerAccepted (lA a : MV) : Option MV :=
 gA lA fun cs =>
 gC cs fun m msA =>
 gI .i64 m fun SF =>
 gC msA fun m1 msA1 =>
 gI .i64 m1 fun ST =>
 gC msA1 fun m2 msA2 =>
 gL m2 fun AcceptsL =>
 gC msA2 fun m3 msA3 =>
 gL m3 fun CommitsL =>
 gC msA3 fun m4 msA4 =>
 gL m4 fun ToldL =>
 gC msA4 fun m5 msA5 =>
 gB m5 fun Done =>
 gC msA5 fun m6 msA6 =>
 gS m6 fun Value =>
 gN msA6 <|
 gA a fun cs1 =>
 gC cs1 fun m7 msA7 =>
 gI .i64 m7 fun By =>
 gC msA7 fun m8 msA8 =>
 gI .i64 m8 fun View =>
 gC msA8 fun m9 msA9 =>
 gS m9 fun Value1 =>
 gN msA9 <|
 bd (dSizeFast (.agg [.i .i64 SF, .i .i64 ST])) fun rA =>
 gI .i64 rA fun x =>
 bd (dLearnerLearnerHears2 (.agg [.i .i64 SF, .i .i64 ST, .list AcceptsL, .list CommitsL, .list ToldL, .b Done, .s Value]) [.i .i64 SF, .i .i64 ST, .list AcceptsL, .list CommitsL, .list ToldL, .b Done, .s Value] (.agg [.i .i64 By, .i .i64 View, .s Value1]) (.i .i64 x)) fun rA1 =>
 gW rA1 fun x1 ls =>
 gC ls fun m10 msA10 =>
 gI .i64 m10 fun SF1 =>
 gC msA10 fun m11 msA11 =>
 gI .i64 m11 fun ST1 =>
 gC msA11 fun m12 msA12 =>
 gL m12 fun AcceptsL1 =>
 gC msA12 fun m13 msA13 =>
 gL m13 fun CommitsL1 =>
 gC msA13 fun m14 msA14 =>
 gL m14 fun ToldL1 =>
 gC msA14 fun m15 msA15 =>
 gB m15 fun Done1 =>
 gC msA15 fun m16 msA16 =>
 gS m16 fun Value2 =>
 gN msA16 <|
 gT x1 fun vs =>
 gC vs fun m17 msA17 =>
 gB m17 fun x2 =>
 gC msA17 fun m18 msA18 =>
 gS m18 fun x3 =>
 gN msA18 <|
 bd (
 ifB x2 (
 some (0, [.i .i64 SF1, .i .i64 ST1, .list AcceptsL1, .list CommitsL1, .list ToldL1, .b true, .s x3])) (
 some (0, [.i .i64 SF1, .i .i64 ST1, .list AcceptsL1, .list CommitsL1, .list ToldL1, .b Done1, .s Value2]))) fun p =>
 chk (Nat.beq p.1 0) <|
 gC p.2 fun m19 msA19 =>
 gI .i64 m19 fun lA1 =>
 gC msA19 fun m20 msA20 =>
 gI .i64 m20 fun lA2 =>
 gC msA20 fun m21 msA21 =>
 gL m21 fun lA3 =>
 gC msA21 fun m22 msA22 =>
 gL m22 fun lA4 =>
 gC msA22 fun m23 msA23 =>
 gL m23 fun lA5 =>
 gC msA23 fun m24 msA24 =>
 gB m24 fun lA6 =>
 gC msA24 fun m25 msA25 =>
 gS m25 fun lA7 =>
 gN msA25 <|
 some (.agg [.i .i64 lA1, .i .i64 lA2, .list lA3, .list lA4, .list lA5, .b lA6, .s lA7])
theorem linkLearnerAccepted (lA a : MV) : bodyK cxLearnerAccepted [] none Try.f39 [lA, a] = dLearnerAccepted lA a := by kernel_rfl
noncomputable def gLearnerAccepted : Nat → List MV → Option MV := addG 39 (lst2 dLearnerAccepted) gSizeFast
theorem soundLearnerAccepted : SoundG Try.prog cx gLearnerAccepted :=
  soundSizeFast.fn (c' := cxLearnerAccepted) (caps := []) ⟨rfl, rfl, rfl, rfl, rfl, rfl, rfl, rfl⟩ rfl tab_ok eq_ok fk_ok mt_ok mix_ok Try.func39 (by kernel_rfl) (fun _ => rfl) (lst2_of linkLearnerAccepted)

noncomputable def cxLearnerCommitted : Ctx := ⟨lookT tiTab, kk, gLearnerAccepted, gv, frs, lookN ftyOf, lookG sigTab, [], 42, [], [], lookL [], lookF fkTab, lookM mtTab, lookL [(4, [0, 1, 2, 3, 4, 5, 6, 7, 8, 9, 10, 11, 12, 13, 14])], lookH [], lookH [(6, ⟨[6, 11], [], [], [(0, [(3, .box [.k (.i .i64), .k (.i .i64), .k .l, .k .l, .k .l, .k .b, .k .s])])], []⟩)], lookH []⟩
noncomputable def dLearnerCommitted (lA byA p : MV) : Option MV :=
 gA lA fun cs =>
 gC cs fun m msA =>
 gI .i64 m fun SF =>
 gC msA fun m1 msA1 =>
 gI .i64 m1 fun ST =>
 gC msA1 fun m2 msA2 =>
 gL m2 fun AcceptsL =>
 gC msA2 fun m3 msA3 =>
 gL m3 fun CommitsL =>
 gC msA3 fun m4 msA4 =>
 gL m4 fun ToldL =>
 gC msA4 fun m5 msA5 =>
 gB m5 fun Done =>
 gC msA5 fun m6 msA6 =>
 gS m6 fun Value =>
 gN msA6 <|
 gI .i64 byA fun byA1 =>
 gL p fun p1 =>
 bd (dProofRight (.agg [.i .i64 SF, .i .i64 ST]) (.list p1)) fun rA =>
 gB rA fun x =>
 ifB (!x) (
 some (.agg [.i .i64 SF, .i .i64 ST, .list AcceptsL, .list CommitsL, .list ToldL, .b Done, .s Value])) (
 bd (dProofOf (.list p1)) fun rA1 =>
 gT rA1 fun vs =>
 gC vs fun m7 msA7 =>
 gI .i64 m7 fun x1 =>
 gC msA7 fun m8 msA8 =>
 gS m8 fun x2 =>
 gC msA8 fun m9 msA9 =>
 gB m9 fun x3 =>
 gN msA9 <|
 bd (dSizeProof (.agg [.i .i64 SF, .i .i64 ST])) fun rA2 =>
 gI .i64 rA2 fun x4 =>
 bd (dLearnerLearnerHears3 (.agg [.i .i64 SF, .i .i64 ST, .list AcceptsL, .list CommitsL, .list ToldL, .b Done, .s Value]) [.i .i64 SF, .i .i64 ST, .list AcceptsL, .list CommitsL, .list ToldL, .b Done, .s Value] (.agg [.i .i64 byA1, .i .i64 x1, .s x2]) (.i .i64 x4)) fun rA3 =>
 gW rA3 fun x5 ls =>
 gC ls fun m10 msA10 =>
 gI .i64 m10 fun SF1 =>
 gC msA10 fun m11 msA11 =>
 gI .i64 m11 fun ST1 =>
 gC msA11 fun m12 msA12 =>
 gL m12 fun AcceptsL1 =>
 gC msA12 fun m13 msA13 =>
 gL m13 fun CommitsL1 =>
 gC msA13 fun m14 msA14 =>
 gL m14 fun ToldL1 =>
 gC msA14 fun m15 msA15 =>
 gB m15 fun Done1 =>
 gC msA15 fun m16 msA16 =>
 gS m16 fun Value1 =>
 gN msA16 <|
 gT x5 fun vs1 =>
 gC vs1 fun m17 msA17 =>
 gB m17 fun x6 =>
 gC msA17 fun m18 msA18 =>
 gS m18 fun x7 =>
 gN msA18 <|
 bd (
 ifB x6 (
 some (0, [.i .i64 SF1, .i .i64 ST1, .list AcceptsL1, .list CommitsL1, .list ToldL1, .b true, .s x7])) (
 some (0, [.i .i64 SF1, .i .i64 ST1, .list AcceptsL1, .list CommitsL1, .list ToldL1, .b Done1, .s Value1]))) fun p2 =>
 chk (Nat.beq p2.1 0) <|
 gC p2.2 fun m19 msA19 =>
 gI .i64 m19 fun lA1 =>
 gC msA19 fun m20 msA20 =>
 gI .i64 m20 fun lA2 =>
 gC msA20 fun m21 msA21 =>
 gL m21 fun lA3 =>
 gC msA21 fun m22 msA22 =>
 gL m22 fun lA4 =>
 gC msA22 fun m23 msA23 =>
 gL m23 fun lA5 =>
 gC msA23 fun m24 msA24 =>
 gB m24 fun lA6 =>
 gC msA24 fun m25 msA25 =>
 gS m25 fun lA7 =>
 gN msA25 <|
 some (.agg [.i .i64 lA1, .i .i64 lA2, .list lA3, .list lA4, .list lA5, .b lA6, .s lA7]))
theorem linkLearnerCommitted (lA byA p : MV) : bodyK cxLearnerCommitted [] none Try.f41 [lA, byA, p] = dLearnerCommitted lA byA p := by kernel_rfl
noncomputable def gLearnerCommitted : Nat → List MV → Option MV := addG 41 (lst3 dLearnerCommitted) gLearnerAccepted
theorem soundLearnerCommitted : SoundG Try.prog cx gLearnerCommitted :=
  soundLearnerAccepted.fn (c' := cxLearnerCommitted) (caps := []) ⟨rfl, rfl, rfl, rfl, rfl, rfl, rfl, rfl⟩ rfl tab_ok eq_ok fk_ok mt_ok mix_ok Try.func41 (by kernel_rfl) (fun _ => rfl) (lst3_of linkLearnerCommitted)

noncomputable def cxL22Heard : Ctx := ⟨lookT tiTab, kk, gLearnerCommitted, gv, frs, lookN ftyOf, lookG sigTab, [], 31, [], [], lookL [], lookF fkTab, lookM mtTab, lookL [], lookH [], lookH [], lookH []⟩
noncomputable def dL22Heard (lA w : MV) : Option MV :=
 gA lA fun cs =>
 gC cs fun m msA =>
 gI .i64 m fun SF =>
 gC msA fun m1 msA1 =>
 gI .i64 m1 fun ST =>
 gC msA1 fun m2 msA2 =>
 gL m2 fun AcceptsL =>
 gC msA2 fun m3 msA3 =>
 gL m3 fun CommitsL =>
 gC msA3 fun m4 msA4 =>
 gL m4 fun ToldL =>
 gC msA4 fun m5 msA5 =>
 gB m5 fun Done =>
 gC msA5 fun m6 msA6 =>
 gS m6 fun Value =>
 gN msA6 <|
 gA w fun cs1 =>
 gC cs1 fun m7 msA7 =>
 gI .i64 m7 fun Kind =>
 gC msA7 fun m8 msA8 =>
 gI .i64 m8 fun By =>
 gC msA8 fun m9 msA9 =>
 gI .i64 m9 fun ABy =>
 gC msA9 fun m10 msA10 =>
 gI .i64 m10 fun AView =>
 gC msA10 fun m11 msA11 =>
 gS m11 fun AValue =>
 gC msA11 fun m12 msA12 =>
 gL m12 fun P =>
 gN msA12 <|
 ifB (decide (Kind = 0)) (
 bd (dLearnerAccepted (.agg [.i .i64 SF, .i .i64 ST, .list AcceptsL, .list CommitsL, .list ToldL, .b Done, .s Value]) (.agg [.i .i64 ABy, .i .i64 AView, .s AValue])) fun rA =>
 gA rA fun cs2 =>
 gC cs2 fun m13 msA13 =>
 gI .i64 m13 fun SF1 =>
 gC msA13 fun m14 msA14 =>
 gI .i64 m14 fun ST1 =>
 gC msA14 fun m15 msA15 =>
 gL m15 fun AcceptsL1 =>
 gC msA15 fun m16 msA16 =>
 gL m16 fun CommitsL1 =>
 gC msA16 fun m17 msA17 =>
 gL m17 fun ToldL1 =>
 gC msA17 fun m18 msA18 =>
 gB m18 fun Done1 =>
 gC msA18 fun m19 msA19 =>
 gS m19 fun Value1 =>
 gN msA19 <|
 some (.agg [.i .i64 SF1, .i .i64 ST1, .list AcceptsL1, .list CommitsL1, .list ToldL1, .b Done1, .s Value1])) (
 ifB (decide (Kind = 1)) (
 bd (dLearnerCommitted (.agg [.i .i64 SF, .i .i64 ST, .list AcceptsL, .list CommitsL, .list ToldL, .b Done, .s Value]) (.i .i64 By) (.list P)) fun rA1 =>
 gA rA1 fun cs3 =>
 gC cs3 fun m20 msA20 =>
 gI .i64 m20 fun SF2 =>
 gC msA20 fun m21 msA21 =>
 gI .i64 m21 fun ST2 =>
 gC msA21 fun m22 msA22 =>
 gL m22 fun AcceptsL2 =>
 gC msA22 fun m23 msA23 =>
 gL m23 fun CommitsL2 =>
 gC msA23 fun m24 msA24 =>
 gL m24 fun ToldL2 =>
 gC msA24 fun m25 msA25 =>
 gB m25 fun Done2 =>
 gC msA25 fun m26 msA26 =>
 gS m26 fun Value2 =>
 gN msA26 <|
 some (.agg [.i .i64 SF2, .i .i64 ST2, .list AcceptsL2, .list CommitsL2, .list ToldL2, .b Done2, .s Value2])) (
 ifB (decide (Kind = 2)) (
 bd (dLearnerTold (.agg [.i .i64 SF, .i .i64 ST, .list AcceptsL, .list CommitsL, .list ToldL, .b Done, .s Value]) (.i .i64 By) (.s AValue)) fun rA2 =>
 gA rA2 fun cs4 =>
 gC cs4 fun m27 msA27 =>
 gI .i64 m27 fun SF3 =>
 gC msA27 fun m28 msA28 =>
 gI .i64 m28 fun ST3 =>
 gC msA28 fun m29 msA29 =>
 gL m29 fun AcceptsL3 =>
 gC msA29 fun m30 msA30 =>
 gL m30 fun CommitsL3 =>
 gC msA30 fun m31 msA31 =>
 gL m31 fun ToldL3 =>
 gC msA31 fun m32 msA32 =>
 gB m32 fun Done3 =>
 gC msA32 fun m33 msA33 =>
 gS m33 fun Value3 =>
 gN msA33 <|
 some (.agg [.i .i64 SF3, .i .i64 ST3, .list AcceptsL3, .list CommitsL3, .list ToldL3, .b Done3, .s Value3])) (
 some (.agg [.i .i64 SF, .i .i64 ST, .list AcceptsL, .list CommitsL, .list ToldL, .b Done, .s Value]))))
theorem linkL22Heard (lA w : MV) : bodyK cxL22Heard [] none Try.f49 [lA, w] = dL22Heard lA w := by kernel_rfl
noncomputable def gL22Heard : Nat → List MV → Option MV := addG 49 (lst2 dL22Heard) gLearnerCommitted
theorem soundL22Heard : SoundG Try.prog cx gL22Heard :=
  soundLearnerCommitted.fn (c' := cxL22Heard) (caps := []) ⟨rfl, rfl, rfl, rfl, rfl, rfl, rfl, rfl⟩ rfl tab_ok eq_ok fk_ok mt_ok mix_ok Try.func49 (by kernel_rfl) (fun _ => rfl) (lst2_of linkL22Heard)

noncomputable def cxL22Many : Ctx := ⟨lookT tiTab, kk, gL22Heard, gv, frs, lookN ftyOf, lookG sigTab, [], 18, [], [], lookL [], lookF fkTab, lookM mtTab, lookL [], lookH [], lookH [(6, ⟨[0, 4], [], [], [(0, [(3, .sc (.k (.i .i64)))])], []⟩)], lookH [(3, ⟨[0], [], [(3, .sc (.k (.i .i64))), (4, .sc (.k (.i .i64)))], [(2, [(3, .sc (.k (.i .i64)))])], []⟩)]⟩
noncomputable def dL22Many (lA : MV) : Option MV :=
 gL lA fun lA1 =>
 bd (Loop (fun msA =>
 gC msA fun m msA1 =>
 gI .i64 m fun n =>
 gC msA1 fun m1 msA2 =>
 gI .i64 m1 fun i =>
 gN msA2 <|
 lenN lA1 fun len =>
 ifB (decide (i < (len : Int))) (
 idx lA1 i fun y =>
 gB y fun x =>
 bd (
 ifB x (
 some (0, [.i .i64 (IntKind.wrap .i64 (n + 1))])) (
 some (0, [.i .i64 n]))) fun p1 =>
 chk (Nat.beq p1.1 0) <|
 gC p1.2 fun m2 msA3 =>
 gI .i64 m2 fun n1 =>
 gN msA3 <|
 some (.inl [.i .i64 n1, .i .i64 (IntKind.wrap .i64 (i + 1))])) (
 some (.inr (2, [.i .i64 n])))) [.i .i64 0, .i .i64 0]) fun p =>
 chk (Nat.beq p.1 2) <|
 gC p.2 fun m3 msA4 =>
 gI .i64 m3 fun n2 =>
 gN msA4 <|
 some (.i .i64 n2)
theorem linkL22Many (lA : MV) : bodyK cxL22Many [] none Try.f92 [lA] = dL22Many lA := by kernel_rfl
noncomputable def gL22Many : Nat → List MV → Option MV := addG 92 (lst1 dL22Many) gL22Heard
theorem soundL22Many : SoundG Try.prog cx gL22Many :=
  soundL22Heard.fn (c' := cxL22Many) (caps := []) ⟨rfl, rfl, rfl, rfl, rfl, rfl, rfl, rfl⟩ rfl tab_ok eq_ok fk_ok mt_ok mix_ok Try.func92 (by kernel_rfl) (fun _ => rfl) (lst1_of linkL22Many)

noncomputable def cxL22Said : Ctx := ⟨lookT tiTab, kk, gL22Many, gv, frs, lookN ftyOf, lookG sigTab, [], 199, [], [], lookL [], lookF fkTab, lookM mtTab, lookL [(11, [0, 2, 1, 3, 4]), (27, [0, 1, 2, 3, 4, 5, 6, 7, 8, 9, 10, 11, 12, 13, 14, 15, 17, 18, 16, 19, 20, 21, 22, 23, 24, 25, 26, 27, 28, 29, 30, 31, 32, 33, 34, 35, 36, 37, 38]), (29, [0, 2, 1, 3, 4, 5, 6, 8, 7, 9, 10, 11])], lookH [(29, ⟨[1, 2, 3, 7, 11, 13, 14], [97, 98], [], [(0, [(198, .sc (.k .b))])], [21, 97, 98]⟩), (27, ⟨[1, 2, 3, 7, 11, 12, 13, 14, 15, 16], [97, 98], [], [(0, [(182, .sc (.k .b))])], [21]⟩), (25, ⟨[1, 2, 3, 7, 11, 12, 13, 14, 15, 16], [97, 98], [], [(0, [(138, .sc (.k .b))])], [21]⟩), (17, ⟨[1, 2, 3, 7, 11, 12], [], [], [(0, [(88, .sc (.k .b))])], [21]⟩), (9, ⟨[1, 2, 3, 7, 8, 9, 10], [21], [], [(0, [(52, .sc (.k .b))])], []⟩)], lookH [(28, ⟨[1, 2, 3, 7, 11, 12, 13, 15, 16], [97], [], [(0, [(14, .sc (.own 98 4 false))])], [21]⟩), (26, ⟨[1, 2, 3, 7, 11, 12, 14, 15, 16], [98], [], [(0, [(13, .sc (.own 97 4 false))])], [21]⟩), (18, ⟨[1, 2, 3, 7, 11], [], [], [(0, [(12, .sc (.k (.i .i64)))])], [21]⟩), (10, ⟨[1, 2, 3, 7, 9, 10], [], [], [(0, [(8, .sc (.own 21 4 false))])], []⟩)], lookH [(22, ⟨[1, 2, 3, 7, 11, 12], [], [(13, .sc (.own 97 4 false)), (14, .sc (.own 98 4 false)), (15, .sc (.k (.i .i64)))], [(6, [(13, .sc (.own 97 4 false)), (14, .sc (.own 98 4 false))])], [21]⟩), (14, ⟨[1, 2, 3, 7], [], [(11, .sc (.k (.i .i64)))], [(1, [(6, .sc (.k .b))]), (4, [])], [21]⟩), (6, ⟨[1, 2, 3, 7], [], [(8, .sc (.own 21 4 false)), (9, .sc (.k (.i .i64)))], [(2, [(8, .sc (.own 21 4 false))])], []⟩)]⟩
noncomputable def dL22Said (a a1 a2 : MV) : Option MV :=
 gA a fun cs =>
 gC cs fun m msA =>
 gI .i64 m fun F =>
 gC msA fun m1 msA1 =>
 gI .i64 m1 fun T =>
 gN msA1 <|
 gL a1 fun a1N1 =>
 gS a2 fun a2N1 =>
 bd (dSizeN (.agg [.i .i64 F, .i .i64 T])) fun rA =>
 gI .i64 rA fun x =>
 ifB (decide ((64 : Int) < x)) (
 some (.b false)) (
 chk (decide ((0 : Int) ≤ 64 ∧ (64 : Int) = 64 ∧ (64 : Int) * 1 ≤ 2 ^ 46)) <|
 bd (Loop (fun msA2 =>
 gC msA2 fun m2 msA3 =>
 gL m2 fun xs =>
 gC msA3 fun m3 msA4 =>
 gI .i64 m3 fun x1 =>
 gN msA4 <|
 lenN a1N1 fun len =>
 ifB (decide (x1 < (len : Int))) (
 idx a1N1 x1 fun y =>
 gA y fun cs1 =>
 gC cs1 fun m4 msA5 =>
 gI .i64 m4 fun Kind =>
 gC msA5 fun m5 msA6 =>
 gI .i64 m5 fun By =>
 gC msA6 fun m6 msA7 =>
 gI .i64 m6 fun ABy =>
 gC msA7 fun m7 msA8 =>
 gI .i64 m7 fun AView =>
 gC msA8 fun m8 msA9 =>
 gS m8 fun AValue =>
 gC msA9 fun m9 msA10 =>
 gL m9 fun P =>
 gN msA10 <|
 bd (
 ifB (decide (Kind = 2)) (
 ifB (decide ((0 : Int) ≤ By)) (
 ifB (decide (By < x)) (
 some [.b (decide (AValue = a2N1))]) (
 some [.b false])) (
 some [.b false])) (
 some [.b false])) fun vs =>
 gC vs fun m10 msA11 =>
 gB m10 fun x2 =>
 gN msA11 <|
 bd (
 ifB x2 (
 idx xs By fun y1 =>
 gB y1 fun x3 =>
 some (0, [.list (xs.set (Int.toNat By) (.b true))])) (
 some (0, [.list xs]))) fun p1 =>
 chk (Nat.beq p1.1 0) <|
 gC p1.2 fun m11 msA12 =>
 gL m11 fun xs1 =>
 gN msA12 <|
 some (.inl [.list xs1, .i .i64 (IntKind.wrap .i64 (x1 + 1))])) (
 some (.inr (2, [.list xs])))) [.list (List.replicate (Int.toNat 64) (.b false)), .i .i64 0]) fun p =>
 chk (Nat.beq p.1 2) <|
 gC p.2 fun m12 msA13 =>
 gL m12 fun xs2 =>
 gN msA13 <|
 bd (dL22Many (.list xs2)) fun rA1 =>
 gI .i64 rA1 fun x4 =>
 bd (dSizeWeak (.agg [.i .i64 F, .i .i64 T])) fun rA2 =>
 gI .i64 rA2 fun x5 =>
 ifB (decide (x5 ≤ x4)) (
 some (.b true)) (
 bd (Loop (fun msA14 =>
 gC msA14 fun m13 msA15 =>
 gI .i64 m13 fun x6 =>
 gN msA15 <|
 lenN a1N1 fun len1 =>
 ifB (decide (x6 < (len1 : Int))) (
 idx a1N1 x6 fun y2 =>
 gA y2 fun cs2 =>
 gC cs2 fun m14 msA16 =>
 gI .i64 m14 fun Kind1 =>
 gC msA16 fun m15 msA17 =>
 gI .i64 m15 fun By1 =>
 gC msA17 fun m16 msA18 =>
 gI .i64 m16 fun ABy1 =>
 gC msA18 fun m17 msA19 =>
 gI .i64 m17 fun AView1 =>
 gC msA19 fun m18 msA20 =>
 gS m18 fun AValue1 =>
 gC msA20 fun m19 msA21 =>
 gL m19 fun P1 =>
 gN msA21 <|
 bd (
 idx a1N1 x6 fun y3 =>
 gA y3 fun cs3 =>
 gC cs3 fun m20 msA22 =>
 gI .i64 m20 fun Kind2 =>
 gC msA22 fun m21 msA23 =>
 gI .i64 m21 fun By2 =>
 gC msA23 fun m22 msA24 =>
 gI .i64 m22 fun ABy2 =>
 gC msA24 fun m23 msA25 =>
 gI .i64 m23 fun AView2 =>
 gC msA25 fun m24 msA26 =>
 gS m24 fun AValue2 =>
 gC msA26 fun m25 msA27 =>
 gL m25 fun P2 =>
 gN msA27 <|
 ifB (decide (Kind2 = 1)) (
 idx a1N1 x6 fun y4 =>
 gA y4 fun cs4 =>
 gC cs4 fun m26 msA28 =>
 gI .i64 m26 fun Kind3 =>
 gC msA28 fun m27 msA29 =>
 gI .i64 m27 fun By3 =>
 gC msA29 fun m28 msA30 =>
 gI .i64 m28 fun ABy3 =>
 gC msA30 fun m29 msA31 =>
 gI .i64 m29 fun AView3 =>
 gC msA31 fun m30 msA32 =>
 gS m30 fun AValue3 =>
 gC msA32 fun m31 msA33 =>
 gL m31 fun P3 =>
 gN msA33 <|
 lenN P3 fun len2 =>
 some [.b (decide ((0 : Int) < (len2 : Int)))]) (
 some [.b false])) fun vs1 =>
 gC vs1 fun m32 msA34 =>
 gB m32 fun x7 =>
 gN msA34 <|
 bd (
 ifB x7 (
 idx a1N1 x6 fun y5 =>
 gA y5 fun cs5 =>
 gC cs5 fun m33 msA35 =>
 gI .i64 m33 fun Kind4 =>
 gC msA35 fun m34 msA36 =>
 gI .i64 m34 fun By4 =>
 gC msA36 fun m35 msA37 =>
 gI .i64 m35 fun ABy4 =>
 gC msA37 fun m36 msA38 =>
 gI .i64 m36 fun AView4 =>
 gC msA38 fun m37 msA39 =>
 gS m37 fun AValue4 =>
 gC msA39 fun m38 msA40 =>
 gL m38 fun P4 =>
 gN msA40 <|
 idx P4 0 fun y6 =>
 gA y6 fun cs6 =>
 gC cs6 fun m39 msA41 =>
 gI .i64 m39 fun By5 =>
 gC msA41 fun m40 msA42 =>
 gI .i64 m40 fun View =>
 gC msA42 fun m41 msA43 =>
 gS m41 fun Value =>
 gN msA43 <|
 some (0, [.i .i64 View])) (
 some (0, [.i .i64 AView1]))) fun p3 =>
 chk (Nat.beq p3.1 0) <|
 gC p3.2 fun m42 msA44 =>
 gI .i64 m42 fun x8 =>
 gN msA44 <|
 chk (decide ((0 : Int) ≤ 64 ∧ (64 : Int) = 64 ∧ (64 : Int) * 1 ≤ 2 ^ 46)) <|
 chk (decide ((0 : Int) ≤ 64 ∧ (64 : Int) = 64 ∧ (64 : Int) * 1 ≤ 2 ^ 46)) <|
 bd (Loop (fun msA45 =>
 gC msA45 fun m43 msA46 =>
 gL m43 fun xs3 =>
 gC msA46 fun m44 msA47 =>
 gL m44 fun xs4 =>
 gC msA47 fun m45 msA48 =>
 gI .i64 m45 fun x9 =>
 gN msA48 <|
 lenN a1N1 fun len3 =>
 ifB (decide (x9 < (len3 : Int))) (
 idx a1N1 x9 fun y7 =>
 gA y7 fun cs7 =>
 gC cs7 fun m46 msA49 =>
 gI .i64 m46 fun Kind5 =>
 gC msA49 fun m47 msA50 =>
 gI .i64 m47 fun By6 =>
 gC msA50 fun m48 msA51 =>
 gI .i64 m48 fun ABy5 =>
 gC msA51 fun m49 msA52 =>
 gI .i64 m49 fun AView5 =>
 gC msA52 fun m50 msA53 =>
 gS m50 fun AValue5 =>
 gC msA53 fun m51 msA54 =>
 gL m51 fun P5 =>
 gN msA54 <|
 bd (
 ifB (decide (Kind5 = 0)) (
 ifB (decide ((0 : Int) ≤ ABy5)) (
 ifB (decide (ABy5 < x)) (
 ifB (decide (AView5 = x8)) (
 some [.b (decide (AValue5 = a2N1))]) (
 some [.b false])) (
 some [.b false])) (
 some [.b false])) (
 some [.b false])) fun vs2 =>
 gC vs2 fun m52 msA55 =>
 gB m52 fun x10 =>
 gN msA55 <|
 bd (
 ifB x10 (
 idx xs3 ABy5 fun y8 =>
 gB y8 fun x11 =>
 some (0, [.list (xs3.set (Int.toNat ABy5) (.b true))])) (
 some (0, [.list xs3]))) fun p5 =>
 chk (Nat.beq p5.1 0) <|
 gC p5.2 fun m53 msA56 =>
 gL m53 fun xs5 =>
 gN msA56 <|
 bd (
 ifB (decide (Kind5 = 1)) (
 ifB (decide ((0 : Int) ≤ By6)) (
 ifB (decide (By6 < x)) (
 bd (dL22Sized (.agg [.i .i64 F, .i .i64 T])) fun rA3 =>
 gA rA3 fun cs8 =>
 gC cs8 fun m54 msA57 =>
 gI .i64 m54 fun F1 =>
 gC msA57 fun m55 msA58 =>
 gI .i64 m55 fun T1 =>
 gN msA58 <|
 bd (dR19Right (.agg [.i .i64 F1, .i .i64 T1]) (.list P5)) fun rA4 =>
 gB rA4 fun x12 =>
 ifB x12 (
 idx P5 0 fun y9 =>
 gA y9 fun cs9 =>
 gC cs9 fun m56 msA59 =>
 gI .i64 m56 fun By7 =>
 gC msA59 fun m57 msA60 =>
 gI .i64 m57 fun View1 =>
 gC msA60 fun m58 msA61 =>
 gS m58 fun Value1 =>
 gN msA61 <|
 ifB (decide (View1 = x8)) (
 idx P5 0 fun y10 =>
 gA y10 fun cs10 =>
 gC cs10 fun m59 msA62 =>
 gI .i64 m59 fun By8 =>
 gC msA62 fun m60 msA63 =>
 gI .i64 m60 fun View2 =>
 gC msA63 fun m61 msA64 =>
 gS m61 fun Value2 =>
 gN msA64 <|
 some [.b (decide (Value2 = a2N1))]) (
 some [.b false])) (
 some [.b false])) (
 some [.b false])) (
 some [.b false])) (
 some [.b false])) fun vs3 =>
 gC vs3 fun m62 msA65 =>
 gB m62 fun x13 =>
 gN msA65 <|
 bd (
 ifB x13 (
 idx xs4 By6 fun y11 =>
 gB y11 fun x14 =>
 some (0, [.list (xs4.set (Int.toNat By6) (.b true))])) (
 some (0, [.list xs4]))) fun p6 =>
 chk (Nat.beq p6.1 0) <|
 gC p6.2 fun m63 msA66 =>
 gL m63 fun xs6 =>
 gN msA66 <|
 some (.inl [.list xs5, .list xs6, .i .i64 (IntKind.wrap .i64 (x9 + 1))])) (
 some (.inr (6, [.list xs3, .list xs4])))) [.list (List.replicate (Int.toNat 64) (.b false)), .list (List.replicate (Int.toNat 64) (.b false)), .i .i64 0]) fun p4 =>
 chk (Nat.beq p4.1 6) <|
 gC p4.2 fun m64 msA67 =>
 gL m64 fun xs7 =>
 gC msA67 fun m65 msA68 =>
 gL m65 fun xs8 =>
 gN msA68 <|
 bd (
 bd (dL22Many (.list xs7)) fun rA5 =>
 gI .i64 rA5 fun x15 =>
 bd (dSizeFast (.agg [.i .i64 F, .i .i64 T])) fun rA6 =>
 gI .i64 rA6 fun x16 =>
 ifB (decide (x16 ≤ x15)) (
 some [.b true]) (
 bd (dL22Many (.list xs8)) fun rA7 =>
 gI .i64 rA7 fun x17 =>
 bd (dSizeProof (.agg [.i .i64 F, .i .i64 T])) fun rA8 =>
 gI .i64 rA8 fun x18 =>
 some [.b (decide (x18 ≤ x17))])) fun vs4 =>
 gC vs4 fun m66 msA69 =>
 gB m66 fun x19 =>
 gN msA69 <|
 ifB x19 (
 some (.inr (1, [.b true]))) (
 some (.inl [.i .i64 (IntKind.wrap .i64 (x6 + 1))]))) (
 some (.inr (4, [])))) [.i .i64 0]) fun p2 =>
 ifB (Nat.beq p2.1 4) (
 gN p2.2 <|
 some (.b false)) (
 chk (Nat.beq p2.1 1) <|
 gC p2.2 fun m67 msA70 =>
 gB m67 fun x20 =>
 gN msA70 <|
 some (.b x20))))
theorem linkL22Said (a a1 a2 : MV) : bodyK cxL22Said [] none Try.f50 [a, a1, a2] = dL22Said a a1 a2 := by kernel_rfl
noncomputable def gL22Said : Nat → List MV → Option MV := addG 50 (lst3 dL22Said) gL22Many
theorem soundL22Said : SoundG Try.prog cx gL22Said :=
  soundL22Many.fn (c' := cxL22Said) (caps := []) ⟨rfl, rfl, rfl, rfl, rfl, rfl, rfl, rfl⟩ rfl tab_ok eq_ok fk_ok mt_ok mix_ok Try.func50 (by kernel_rfl) (fun _ => rfl) (lst3_of linkL22Said)

noncomputable def cxL22LearnerStays : Ctx := ⟨lookT tiTab, kk, gL22Said, gv, frs, lookN ftyOf, lookG sigTab, [], 82, [], [], lookL [], lookF fkTab, lookM mtTab, lookL [(13, [0, 1, 2, 3, 4, 5, 6, 7, 8, 9, 10, 11, 12, 13, 14, 15, 16, 17])], lookH [(13, ⟨[1, 2, 5, 7, 9], [], [], [(0, [(79, .sc (.k .b))])], []⟩), (11, ⟨[1, 2, 5, 7, 9], [], [], [(0, [(61, .sc (.k .b))])], []⟩), (8, ⟨[1, 2, 5, 7, 8], [], [], [(0, [(43, .sc (.k .b))])], []⟩), (2, ⟨[1, 2, 5, 6], [], [], [(0, [(21, .sc (.k .b))])], []⟩)], lookH [], lookH [(5, ⟨[1, 2], [], [(5, .box [.k (.i .i64), .k (.i .i64), .k .l, .k .l, .k .l, .k .b, .k .s]), (7, .sc (.k (.i .i64)))], [(1, [(4, .sc (.k .b))]), (2, [])], []⟩)]⟩
noncomputable def dL22LearnerStays (a a1 : MV) : Option MV :=
 gA a fun cs =>
 gC cs fun m msA =>
 gI .i64 m fun F =>
 gC msA fun m1 msA1 =>
 gI .i64 m1 fun T =>
 gN msA1 <|
 gL a1 fun a1N1 =>
 bd (dLearnerNew (.agg [.i .i64 F, .i .i64 T])) fun rA =>
 gT rA fun vs =>
 gC vs fun m2 msA2 =>
 gA m2 fun cs1 =>
 gC cs1 fun m3 msA3 =>
 gI .i64 m3 fun SF =>
 gC msA3 fun m4 msA4 =>
 gI .i64 m4 fun ST =>
 gC msA4 fun m5 msA5 =>
 gL m5 fun AcceptsL =>
 gC msA5 fun m6 msA6 =>
 gL m6 fun CommitsL =>
 gC msA6 fun m7 msA7 =>
 gL m7 fun ToldL =>
 gC msA7 fun m8 msA8 =>
 gB m8 fun Done =>
 gC msA8 fun m9 msA9 =>
 gS m9 fun Value =>
 gN msA9 <|
 gC msA2 fun m10 msA10 =>
 gI .i64 m10 fun x =>
 gN msA10 <|
 bd (
 ifB (!decide (x = 0)) (
 some [.b true]) (
 lenN a1N1 fun len =>
 some [.b (decide ((60 : Int) < (len : Int)))])) fun vs1 =>
 gC vs1 fun m11 msA11 =>
 gB m11 fun x1 =>
 gN msA11 <|
 ifB x1 (
 bd (dL22Alive) fun rA1 =>
 gB rA1 fun x2 =>
 some (.b x2)) (
 bd (Loop (fun msA12 =>
 gC msA12 fun m12 msA13 =>
 gI .i64 m12 fun x3 =>
 gC msA13 fun m13 msA14 =>
 gI .i64 m13 fun x4 =>
 gC msA14 fun m14 msA15 =>
 gL m14 fun x5 =>
 gC msA15 fun m15 msA16 =>
 gL m15 fun x6 =>
 gC msA16 fun m16 msA17 =>
 gL m16 fun x7 =>
 gC msA17 fun m17 msA18 =>
 gB m17 fun x8 =>
 gC msA18 fun m18 msA19 =>
 gS m18 fun x9 =>
 gC msA19 fun m19 msA20 =>
 gI .i64 m19 fun x10 =>
 gN msA20 <|
 lenN a1N1 fun len1 =>
 ifB (decide (x10 < (len1 : Int))) (
 idx a1N1 x10 fun y =>
 gA y fun cs2 =>
 gC cs2 fun m20 msA21 =>
 gI .i64 m20 fun Kind =>
 gC msA21 fun m21 msA22 =>
 gI .i64 m21 fun By =>
 gC msA22 fun m22 msA23 =>
 gI .i64 m22 fun ABy =>
 gC msA23 fun m23 msA24 =>
 gI .i64 m23 fun AView =>
 gC msA24 fun m24 msA25 =>
 gS m24 fun AValue =>
 gC msA25 fun m25 msA26 =>
 gL m25 fun P =>
 gN msA26 <|
 bd (
 bd (dL22Votes (.list P)) fun rA2 =>
 gB rA2 fun x11 =>
 ifB (!x11) (
 some [.b true]) (
 some [.b (decide ((6100 : Int) < (AValue.length : Int)))])) fun vs2 =>
 gC vs2 fun m26 msA27 =>
 gB m26 fun x12 =>
 gN msA27 <|
 ifB x12 (
 bd (dL22Alive) fun rA3 =>
 gB rA3 fun x13 =>
 some (.inr (1, [.b x13]))) (
 bd (dL22Heard (.agg [.i .i64 x3, .i .i64 x4, .list x5, .list x6, .list x7, .b x8, .s x9]) (.agg [.i .i64 Kind, .i .i64 By, .i .i64 ABy, .i .i64 AView, .s AValue, .list P])) fun rA4 =>
 gA rA4 fun cs3 =>
 gC cs3 fun m27 msA28 =>
 gI .i64 m27 fun SF1 =>
 gC msA28 fun m28 msA29 =>
 gI .i64 m28 fun ST1 =>
 gC msA29 fun m29 msA30 =>
 gL m29 fun AcceptsL1 =>
 gC msA30 fun m30 msA31 =>
 gL m30 fun CommitsL1 =>
 gC msA31 fun m31 msA32 =>
 gL m31 fun ToldL1 =>
 gC msA32 fun m32 msA33 =>
 gB m32 fun Done1 =>
 gC msA33 fun m33 msA34 =>
 gS m33 fun Value1 =>
 gN msA34 <|
 bd (
 ifB x8 (
 bd (dLearnerSame (.agg [.i .i64 x3, .i .i64 x4, .list x5, .list x6, .list x7, .b x8, .s x9]) (.agg [.i .i64 SF1, .i .i64 ST1, .list AcceptsL1, .list CommitsL1, .list ToldL1, .b Done1, .s Value1])) fun rA5 =>
 gB rA5 fun x14 =>
 ifB (!x14) (
 some [.b true]) (
 bd (dL22Plain (.agg [.i .i64 SF1, .i .i64 ST1, .list AcceptsL1, .list CommitsL1, .list ToldL1, .b Done1, .s Value1])) fun rA6 =>
 gA rA6 fun cs4 =>
 gC cs4 fun m34 msA35 =>
 gI .i64 m34 fun SF2 =>
 gC msA35 fun m35 msA36 =>
 gI .i64 m35 fun ST2 =>
 gC msA36 fun m36 msA37 =>
 gL m36 fun AcceptsL2 =>
 gC msA37 fun m37 msA38 =>
 gL m37 fun CommitsL2 =>
 gC msA38 fun m38 msA39 =>
 gL m38 fun ToldL2 =>
 gC msA39 fun m39 msA40 =>
 gB m39 fun Done2 =>
 gC msA40 fun m40 msA41 =>
 gS m40 fun Value2 =>
 gN msA41 <|
 bd (dR22Right (.agg [.i .i64 SF2, .i .i64 ST2, .list AcceptsL2, .list CommitsL2, .list ToldL2, .b Done2, .s Value2])) fun rA7 =>
 gB rA7 fun x15 =>
 some [.b (!x15)])) (
 bd (dL22Plain (.agg [.i .i64 SF1, .i .i64 ST1, .list AcceptsL1, .list CommitsL1, .list ToldL1, .b Done1, .s Value1])) fun rA8 =>
 gA rA8 fun cs5 =>
 gC cs5 fun m41 msA42 =>
 gI .i64 m41 fun SF3 =>
 gC msA42 fun m42 msA43 =>
 gI .i64 m42 fun ST3 =>
 gC msA43 fun m43 msA44 =>
 gL m43 fun AcceptsL3 =>
 gC msA44 fun m44 msA45 =>
 gL m44 fun CommitsL3 =>
 gC msA45 fun m45 msA46 =>
 gL m45 fun ToldL3 =>
 gC msA46 fun m46 msA47 =>
 gB m46 fun Done3 =>
 gC msA47 fun m47 msA48 =>
 gS m47 fun Value3 =>
 gN msA48 <|
 bd (dR22Right (.agg [.i .i64 SF3, .i .i64 ST3, .list AcceptsL3, .list CommitsL3, .list ToldL3, .b Done3, .s Value3])) fun rA9 =>
 gB rA9 fun x16 =>
 some [.b (!x16)])) fun vs3 =>
 gC vs3 fun m48 msA49 =>
 gB m48 fun x17 =>
 gN msA49 <|
 ifB x17 (
 some (.inr (1, [.b false]))) (
 bd (
 ifB (!x8) (
 ifB Done1 (
 lenN a1N1 fun len2 =>
 chk (decide ((0 : Int) ≤ 0 ∧ (0 : Int) ≤ (IntKind.wrap .i64 (x10 + 1)) ∧ (IntKind.wrap .i64 (x10 + 1)) ≤ (len2 : Int))) <|
 bd (dL22Said (.agg [.i .i64 F, .i .i64 T]) (.list (List.drop (Int.toNat 0) (List.take (Int.toNat (IntKind.wrap .i64 (x10 + 1))) a1N1))) (.s Value1)) fun rA10 =>
 gB rA10 fun x18 =>
 some [.b (!x18)]) (
 some [.b false])) (
 some [.b false])) fun vs4 =>
 gC vs4 fun m49 msA50 =>
 gB m49 fun x19 =>
 gN msA50 <|
 ifB x19 (
 some (.inr (1, [.b false]))) (
 some (.inl [.i .i64 SF1, .i .i64 ST1, .list AcceptsL1, .list CommitsL1, .list ToldL1, .b Done1, .s Value1, .i .i64 (IntKind.wrap .i64 (x10 + 1))]))))) (
 some (.inr (2, [])))) [.i .i64 SF, .i .i64 ST, .list AcceptsL, .list CommitsL, .list ToldL, .b Done, .s Value, .i .i64 0]) fun p =>
 ifB (Nat.beq p.1 2) (
 gN p.2 <|
 bd (dL22Alive) fun rA11 =>
 gB rA11 fun x20 =>
 some (.b x20)) (
 chk (Nat.beq p.1 1) <|
 gC p.2 fun m50 msA51 =>
 gB m50 fun x21 =>
 gN msA51 <|
 some (.b x21)))
theorem linkL22LearnerStays (a a1 : MV) : bodyK cxL22LearnerStays [] none Try.f8 [a, a1] = dL22LearnerStays a a1 := by kernel_rfl
noncomputable def gL22LearnerStays : Nat → List MV → Option MV := addG 8 (lst2 dL22LearnerStays) gL22Said
theorem soundL22LearnerStays : SoundG Try.prog cx gL22LearnerStays :=
  soundL22Said.fn (c' := cxL22LearnerStays) (caps := []) ⟨rfl, rfl, rfl, rfl, rfl, rfl, rfl, rfl⟩ rfl tab_ok eq_ok fk_ok mt_ok mix_ok Try.func8 (by kernel_rfl) (fun _ => rfl) (lst2_of linkL22LearnerStays)
end Dn.S
