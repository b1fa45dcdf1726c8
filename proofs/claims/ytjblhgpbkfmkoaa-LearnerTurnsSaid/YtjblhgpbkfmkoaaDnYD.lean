import Derived.Test.YtjblhgpbkfmkoaaDnYTab
import Derived.Test.YtjblhgpbkfmkoaaDnC
import Derived.Test.YtjblhgpbkfmkoaaDnYT
import Derived.KernelRfl
import Derived.Test.YtjblhgpbkfmkoaaProg
/-
  The functions, on plain values, and their contracts. Conditions: none.
-/
open Go Dn Go.Proofs
set_option linter.unusedVariables false
set_option linter.unusedSimpArgs false
set_option maxRecDepth 100000
namespace Dn.S
theorem tab_ok : TIok Try.prog (lookT tiTab) := tabB_ok (by kernel_rfl)
theorem eq_ok : EqOK Try.prog (lookT tiTab) := eqTabB_ok (by kernel_rfl)
theorem mix_ok : Try.prog.follows .mixedOrders = true := by kernel_rfl
def lookH : List (Nat × Hint) → Nat → Hint
  | [], _ => default
  | (k, s) :: r, t => bif Nat.beq k t then s else lookH r t
def lookL : List (Nat × List Nat) → Nat → List Nat
  | [], _ => []
  | (k, s) :: r, t => bif Nat.beq k t then s else lookL r t
def lookN : List (Nat × Nat) → Nat → Nat
  | [], _ => 0
  | (k, s) :: r, t => bif Nat.beq k t then s else lookN r t
def kk (n : Nat) : Nat := n
def gv (n : Nat) : Bool := nmem [118, 83] n
def frs (n : Nat) : Bool := nmem [117, 118] n
def ftyOf : List (Nat × Nat) := [(117, 72), (118, 72)]
def lookF : List (Nat × FloatKind) → Nat → Option FloatKind
  | [], _ => none
  | (k, s) :: r, t => bif Nat.beq k t then some s else lookF r t
def fkTab : List (Nat × FloatKind) := [(170, .f64)]
theorem fk_ok : ∀ t k, lookF fkTab t = some k → Try.prog.underlying t = some (.float k) := by
  intro t k h
  unfold fkTab at h
  simp only [lookF] at h
  cases hb : Nat.beq 170 t with
  | true =>
    rw [hb] at h
    have ht := Nat.eq_of_beq_eq_true hb
    subst ht
    simp only [cond_true, Option.some.injEq] at h
    subst h
    exact Try.underlying170
  | false =>
  rw [hb] at h
  simp only [cond_false] at h
  cases h
def mtTab : List (Nat × (Nat × Bool)) := [(184, (186, false)), (190, (9, false))]
def lookG : List (Nat × (Nat × List LK)) → Nat → Option (Nat × List LK)
  | [], _ => none
  | (k, s) :: r, t => bif Nat.beq k t then some s else lookG r t
def sigTab : List (Nat × (Nat × List LK)) := [(83, (1, [.k (.i .i64), .k (.i .i64), .k (.l), .k (.l), .k (.l), .k (.b), .k (.s)]))]
def cx : Ctx := ⟨lookT tiTab, kk, fun _ _ => none, gv, frs, lookN ftyOf, lookG sigTab, [], 0, [], [], fun _ => [], lookF fkTab, lookM mtTab, fun _ => [], fun _ => default, fun _ => default, fun _ => default⟩
theorem mt_ok : MapTys Try.prog cx := mapTabB_ok (l := mtTab) (by kernel_rfl) (fun _ _ h => h)
abbrev sigK83 : List LK := [.k (.i .i64), .k (.i .i64), .k (.l), .k (.l), .k (.l), .k (.b), .k (.s)]
def tiAt (t : Nat) : TI := match lookT tiTab t with | some I => I | none => ⟨false, 0, 0, [], [], [], [], 0, []⟩
theorem tv24 : cx.tv 24 = some (tiAt 24) := by kernel_rfl
theorem tv72 : cx.tv 72 = some (tiAt 72) := by kernel_rfl
theorem hand117 {g : Nat → List MV → Option MV} (h : SoundG Try.prog cx g) : SoundG Try.prog cx (addG 117 (cloneF 3 32) g) := h.add1 (fun _ => rfl) (fun ms r hr => by
  obtain ⟨xs, rfl, rfl, h1, h2⟩ := cloneF_some hr
  exact clone_ok (P := Try.prog) (c := cx) (f := 117) (fn := Try.f117) (t := 24) (I := tiAt 24) (E := tiAt 72) (i0 := 0) (i1 := 1) (i2 := 2) (i3 := 3) (oA := opAt Try.f117 noOp 0) (oB := opAt Try.f117 noOp 1) (oC := opAt Try.f117 noOp 2) (oD := opAt Try.f117 noOp 3) (oE := opAt Try.f117 noOp 4) (oF := opAt Try.f117 noOp 5) (oG := opAt Try.f117 noOp 6) (oH := opAt Try.f117 noOp 7) tab_ok tv24 (by kernel_rfl) tv72 (Nat.le_of_ble_eq_true (by kernel_rfl)) (by kernel_rfl) (by kernel_rfl) Try.func117 (by kernel_rfl) (by kernel_rfl) (by kernel_rfl) (by kernel_rfl)
    ⟨by kernel_rfl, by kernel_rfl, by kernel_rfl⟩ ⟨by kernel_rfl, by kernel_rfl, by kernel_rfl⟩ ⟨by kernel_rfl, by kernel_rfl, by kernel_rfl⟩ ⟨by kernel_rfl, by kernel_rfl, by kernel_rfl⟩ ⟨by kernel_rfl, by kernel_rfl, by kernel_rfl⟩ ⟨by kernel_rfl, by kernel_rfl, by kernel_rfl⟩ ⟨by kernel_rfl, by kernel_rfl, by kernel_rfl⟩ ⟨by kernel_rfl, by kernel_rfl, by kernel_rfl⟩ (by rw [show (tiAt 72).size = 3 by kernel_rfl]; exact h1) (by rw [show (tiAt 72).bytes = 32 by kernel_rfl]; exact h2))
theorem ins118 : InsFn Try.prog 118 24 3 4 72 134 Try.f118 (fun k => k) (opAt Try.f118 noOp) (insTail (opAt Try.f118 noOp)) := by
  refine ⟨Try.func118, by kernel_rfl, by kernel_rfl, by kernel_rfl, by kernel_rfl, ?_, mix_ok, by kernel_rfl⟩
  exact ⟨⟨by kernel_rfl, by kernel_rfl, by kernel_rfl⟩, ⟨by kernel_rfl, by kernel_rfl, by kernel_rfl⟩, ⟨by kernel_rfl, by kernel_rfl, by kernel_rfl⟩, ⟨by kernel_rfl, by kernel_rfl, by kernel_rfl⟩, ⟨by kernel_rfl, by kernel_rfl, by kernel_rfl⟩, ⟨by kernel_rfl, by kernel_rfl, by kernel_rfl⟩, ⟨by kernel_rfl, by kernel_rfl, by kernel_rfl⟩, ⟨by kernel_rfl, by kernel_rfl, by kernel_rfl⟩, ⟨by kernel_rfl, by kernel_rfl, by kernel_rfl⟩, ⟨by kernel_rfl, by kernel_rfl, by kernel_rfl⟩, ⟨by kernel_rfl, by kernel_rfl, by kernel_rfl⟩, ⟨by kernel_rfl, by kernel_rfl, by kernel_rfl⟩, ⟨by kernel_rfl, by kernel_rfl, by kernel_rfl⟩, ⟨by kernel_rfl, by kernel_rfl, by kernel_rfl⟩, ⟨by kernel_rfl, by kernel_rfl, by kernel_rfl⟩, ⟨by kernel_rfl, by kernel_rfl, by kernel_rfl⟩, ⟨by kernel_rfl, by kernel_rfl, by kernel_rfl⟩, ⟨by kernel_rfl, by kernel_rfl, by kernel_rfl⟩, ⟨by kernel_rfl, by kernel_rfl, by kernel_rfl⟩, ⟨by kernel_rfl, by kernel_rfl, by kernel_rfl⟩, ⟨by kernel_rfl, by kernel_rfl, by kernel_rfl⟩, ⟨by kernel_rfl, by kernel_rfl, by kernel_rfl⟩, ⟨by kernel_rfl, by kernel_rfl, by kernel_rfl⟩, ⟨by kernel_rfl, by kernel_rfl, by kernel_rfl⟩, ⟨by kernel_rfl, by kernel_rfl, by kernel_rfl⟩, ⟨by kernel_rfl, by kernel_rfl, by kernel_rfl⟩, ⟨by kernel_rfl, by kernel_rfl, by kernel_rfl⟩, ⟨by kernel_rfl, by kernel_rfl, by kernel_rfl⟩, ⟨by kernel_rfl, by kernel_rfl, by kernel_rfl⟩, ⟨by kernel_rfl, by kernel_rfl, by kernel_rfl⟩, ⟨by kernel_rfl, by kernel_rfl, by kernel_rfl⟩, ⟨by kernel_rfl, by kernel_rfl, by kernel_rfl⟩, ⟨by kernel_rfl, by kernel_rfl, by kernel_rfl⟩, ⟨by kernel_rfl, by kernel_rfl, by kernel_rfl⟩, ⟨by kernel_rfl, by kernel_rfl, by kernel_rfl⟩, ⟨by kernel_rfl, by kernel_rfl, by kernel_rfl⟩, ⟨by kernel_rfl, by kernel_rfl, by kernel_rfl⟩, ⟨by kernel_rfl, by kernel_rfl, by kernel_rfl⟩, ⟨by kernel_rfl, by kernel_rfl, by kernel_rfl⟩, ⟨by kernel_rfl, by kernel_rfl, by kernel_rfl⟩, ⟨by kernel_rfl, by kernel_rfl, by kernel_rfl⟩, ⟨by kernel_rfl, by kernel_rfl, by kernel_rfl⟩, ⟨by kernel_rfl, by kernel_rfl, by kernel_rfl⟩, ⟨by kernel_rfl, by kernel_rfl, by kernel_rfl⟩, ⟨by kernel_rfl, by kernel_rfl, by kernel_rfl⟩, ⟨by kernel_rfl, by kernel_rfl, by kernel_rfl⟩, ⟨by kernel_rfl, by kernel_rfl, by kernel_rfl⟩, ⟨by kernel_rfl, by kernel_rfl, by kernel_rfl⟩, ⟨by kernel_rfl, by kernel_rfl, by kernel_rfl⟩, ⟨by kernel_rfl, by kernel_rfl, by kernel_rfl⟩, ⟨by kernel_rfl, by kernel_rfl, by kernel_rfl⟩, ⟨by kernel_rfl, by kernel_rfl, by kernel_rfl⟩, ⟨by kernel_rfl, by kernel_rfl, by kernel_rfl⟩, ⟨by kernel_rfl, by kernel_rfl, by kernel_rfl⟩, ⟨by kernel_rfl, by kernel_rfl, by kernel_rfl⟩, ⟨by kernel_rfl, by kernel_rfl, by kernel_rfl⟩, ⟨by kernel_rfl, by kernel_rfl, by kernel_rfl⟩, ⟨by kernel_rfl, by kernel_rfl, by kernel_rfl⟩, ⟨by kernel_rfl, by kernel_rfl, by kernel_rfl⟩, ⟨by kernel_rfl, by kernel_rfl, by kernel_rfl⟩, ⟨by kernel_rfl, by kernel_rfl, by kernel_rfl⟩, ⟨by kernel_rfl, by kernel_rfl, by kernel_rfl⟩, ⟨by kernel_rfl, by kernel_rfl, by kernel_rfl⟩, ⟨by kernel_rfl, by kernel_rfl, by kernel_rfl⟩, ⟨by kernel_rfl, by kernel_rfl, by kernel_rfl⟩, ⟨by kernel_rfl, by kernel_rfl, by kernel_rfl⟩, ⟨by kernel_rfl, by kernel_rfl, by kernel_rfl⟩, ⟨by kernel_rfl, by kernel_rfl, by kernel_rfl⟩, ⟨by kernel_rfl, by kernel_rfl, by kernel_rfl⟩, ⟨by kernel_rfl, by kernel_rfl, by kernel_rfl⟩, ⟨by kernel_rfl, by kernel_rfl, by kernel_rfl⟩, ⟨by kernel_rfl, by kernel_rfl, by kernel_rfl⟩, ⟨by kernel_rfl, by kernel_rfl, by kernel_rfl⟩, ⟨by kernel_rfl, by kernel_rfl, by kernel_rfl⟩, ⟨by kernel_rfl, by kernel_rfl, by kernel_rfl⟩, ⟨by kernel_rfl, by kernel_rfl, by kernel_rfl⟩, ⟨by kernel_rfl, by kernel_rfl, by kernel_rfl⟩, ⟨by kernel_rfl, by kernel_rfl, by kernel_rfl⟩, ⟨by kernel_rfl, by kernel_rfl, by kernel_rfl⟩, ⟨by kernel_rfl, by kernel_rfl, by kernel_rfl⟩, ⟨by kernel_rfl, by kernel_rfl, by kernel_rfl⟩, ⟨by kernel_rfl, by kernel_rfl, by kernel_rfl⟩, ⟨by kernel_rfl, by kernel_rfl, by kernel_rfl⟩, by kernel_rfl, by kernel_rfl⟩
theorem ov118 : ∀ args w, (callFunc 134 args).run Try.prog w = ((Extern.SlicesOverlaps.overlaps #[24, 24] #[4] args).run Try.prog w).andThen fun v w' => .ok (.value v) w' := fun args w => run_callFunc_extern Try.func134 (by kernel_rfl) (by kernel_rfl) (by kernel_rfl) (e := Extern.SlicesOverlaps.overlaps #[24, 24] #[4]) (by kernel_rfl) args w
theorem hand118 {g : Nat → List MV → Option MV} (h : SoundG Try.prog cx g) : SoundG Try.prog cx (addG 118 (insertF 32) g) := h.add1 (fun _ => rfl) (fun ms r hr => by
  obtain ⟨xs, ys, i, rfl, rfl, h1, h2, h3⟩ := insertF_some hr
  exact insert_ok (P := Try.prog) (c := cx) (I := tiAt 24) (E := tiAt 72) ins118 tab_ok tv24 (by kernel_rfl) tv72 (Nat.le_of_ble_eq_true (by kernel_rfl)) (by kernel_rfl) (by kernel_rfl) (by kernel_rfl) (by kernel_rfl) ov118 h1 h2 (by rw [show (tiAt 72).bytes = 32 by kernel_rfl]; exact h3))
noncomputable def H117 : Nat → List MV → Option MV := addG 117 (cloneF 3 32) (fun _ _ => none)
theorem soundH117 : SoundG Try.prog cx H117 := hand117 (SoundG.none _ _)
noncomputable def H118 : Nat → List MV → Option MV := addG 118 (insertF 32) H117
theorem soundH118 : SoundG Try.prog cx H118 := hand118 soundH117

noncomputable def cxSizeSizePair : Ctx := ⟨lookT tiTab, kk, H118, gv, frs, lookN ftyOf, lookG sigTab, [], 10, [], [], lookL [], lookF fkTab, lookM mtTab, lookL [], lookH [], lookH [], lookH []⟩
noncomputable def dSizeSizePair (sA : MV) : Option MV :=
 gA sA fun cs =>
 gC cs fun m msA =>
 gI .i64 m fun F =>
 gC msA fun m1 msA1 =>
 gI .i64 m1 fun T =>
 gN msA1 <|
 some (.raw (.complex .f64 (FloatKind.nearest .f64 F) (FloatKind.nearest .f64 T)))
theorem linkSizeSizePair (sA : MV) : bodyK cxSizeSizePair [] none Try.f111 [sA] = dSizeSizePair sA := by kernel_rfl
noncomputable def gSizeSizePair : Nat → List MV → Option MV := addG 111 (lst1 dSizeSizePair) H118
theorem soundSizeSizePair : SoundG Try.prog cx gSizeSizePair :=
  soundH118.fn (c' := cxSizeSizePair) (caps := []) ⟨rfl, rfl, rfl, rfl, rfl, rfl, rfl, rfl⟩ rfl tab_ok eq_ok fk_ok mt_ok mix_ok Try.func111 (by kernel_rfl) (fun _ => rfl) (lst1_of linkSizeSizePair)

noncomputable def cxSizeSizeOf : Ctx := ⟨lookT tiTab, kk, gSizeSizePair, gv, frs, lookN ftyOf, lookG sigTab, [], 21, [], [], lookL [], lookF fkTab, lookM mtTab, lookL [], lookH [], lookH [], lookH []⟩
noncomputable def dSizeSizeOf (sA times : MV) : Option MV :=
 gA sA fun cs =>
 gC cs fun m msA =>
 gI .i64 m fun F =>
 gC msA fun m1 msA1 =>
 gI .i64 m1 fun T =>
 gN msA1 <|
 gR times fun times1 =>
 bd (dSizeSizePair (.agg [.i .i64 F, .i .i64 T])) fun rA =>
 gR rA fun x =>
 gCx x fun re im =>
 gCx times1 fun re1 im1 =>
 bd (FloatKind.f64.format.mul re re1) fun f =>
 gCx x fun re2 im2 =>
 gCx times1 fun re3 im3 =>
 bd (FloatKind.f64.format.mul im2 im3) fun f1 =>
 bd (FloatKind.f64.format.add f f1) fun f2 =>
 bd ((FloatKind.decode .f64 f2).toInt .zero) fun n =>
 chk (decide (IntKind.min .i64 ≤ n ∧ n ≤ IntKind.max .i64)) <|
 some (.i .i64 (IntKind.wrap .i64 (n + 1)))
theorem linkSizeSizeOf (sA times : MV) : bodyK cxSizeSizeOf [] none Try.f91 [sA, times] = dSizeSizeOf sA times := by kernel_rfl
noncomputable def gSizeSizeOf : Nat → List MV → Option MV := addG 91 (lst2 dSizeSizeOf) gSizeSizePair
theorem soundSizeSizeOf : SoundG Try.prog cx gSizeSizeOf :=
  soundSizeSizePair.fn (c' := cxSizeSizeOf) (caps := []) ⟨rfl, rfl, rfl, rfl, rfl, rfl, rfl, rfl⟩ rfl tab_ok eq_ok fk_ok mt_ok mix_ok Try.func91 (by kernel_rfl) (fun _ => rfl) (lst2_of linkSizeSizeOf)

noncomputable def cxSizeN : Ctx := ⟨lookT tiTab, kk, gSizeSizeOf, gv, frs, lookN ftyOf, lookG sigTab, [], 5, [], [], lookL [], lookF fkTab, lookM mtTab, lookL [], lookH [], lookH [], lookH []⟩
noncomputable def dSizeN (sA : MV) : Option MV :=
 gA sA fun cs =>
 gC cs fun m msA =>
 gI .i64 m fun F =>
 gC msA fun m1 msA1 =>
 gI .i64 m1 fun T =>
 gN msA1 <|
 bd (dSizeSizeOf (.agg [.i .i64 F, .i .i64 T]) (.raw (.complex .f64 4613937818241073152 4611686018427387904))) fun rA =>
 gI .i64 rA fun x =>
 some (.i .i64 x)
theorem linkSizeN (sA : MV) : bodyK cxSizeN [] none Try.f45 [sA] = dSizeN sA := by kernel_rfl
noncomputable def gSizeN : Nat → List MV → Option MV := addG 45 (lst1 dSizeN) gSizeSizeOf
theorem soundSizeN : SoundG Try.prog cx gSizeN :=
  soundSizeSizeOf.fn (c' := cxSizeN) (caps := []) ⟨rfl, rfl, rfl, rfl, rfl, rfl, rfl, rfl⟩ rfl tab_ok eq_ok fk_ok mt_ok mix_ok Try.func45 (by kernel_rfl) (fun _ => rfl) (lst1_of linkSizeN)

noncomputable def cxSizeRight : Ctx := ⟨lookT tiTab, kk, gSizeN, gv, frs, lookN ftyOf, lookG sigTab, [], 23, [], [], lookL [], lookF fkTab, lookM mtTab, lookL [], lookH [(1, ⟨[1], [], [], [(0, [(2, .sc (.k .b))])], []⟩)], lookH [], lookH []⟩
noncomputable def dSizeRight (sA : MV) : Option MV :=
 gA sA fun cs =>
 gC cs fun m msA =>
 gI .i64 m fun F =>
 gC msA fun m1 msA1 =>
 gI .i64 m1 fun T =>
 gN msA1 <|
 bd (
 ifB (decide ((1 : Int) ≤ F)) (
 ifB (decide (F ≤ 5)) (
 ifB (decide ((0 : Int) ≤ T)) (
 some [.b (decide (T ≤ F))]) (
 some [.b false])) (
 some [.b false])) (
 some [.b false])) fun vs =>
 gC vs fun m2 msA2 =>
 gB m2 fun x =>
 gN msA2 <|
 some (.b x)
theorem linkSizeRight (sA : MV) : bodyK cxSizeRight [] none Try.f61 [sA] = dSizeRight sA := by kernel_rfl
noncomputable def gSizeRight : Nat → List MV → Option MV := addG 61 (lst1 dSizeRight) gSizeN
theorem soundSizeRight : SoundG Try.prog cx gSizeRight :=
  soundSizeN.fn (c' := cxSizeRight) (caps := []) ⟨rfl, rfl, rfl, rfl, rfl, rfl, rfl, rfl⟩ rfl tab_ok eq_ok fk_ok mt_ok mix_ok Try.func61 (by kernel_rfl) (fun _ => rfl) (lst1_of linkSizeRight)

noncomputable def cxSizeProof : Ctx := ⟨lookT tiTab, kk, gSizeRight, gv, frs, lookN ftyOf, lookG sigTab, [], 5, [], [], lookL [], lookF fkTab, lookM mtTab, lookL [], lookH [], lookH [], lookH []⟩
noncomputable def dSizeProof (sA : MV) : Option MV :=
 gA sA fun cs =>
 gC cs fun m msA =>
 gI .i64 m fun F =>
 gC msA fun m1 msA1 =>
 gI .i64 m1 fun T =>
 gN msA1 <|
 bd (dSizeSizeOf (.agg [.i .i64 F, .i .i64 T]) (.raw (.complex .f64 4611686018427387904 4607182418800017408))) fun rA =>
 gI .i64 rA fun x =>
 some (.i .i64 x)
theorem linkSizeProof (sA : MV) : bodyK cxSizeProof [] none Try.f46 [sA] = dSizeProof sA := by kernel_rfl
noncomputable def gSizeProof : Nat → List MV → Option MV := addG 46 (lst1 dSizeProof) gSizeRight
theorem soundSizeProof : SoundG Try.prog cx gSizeProof :=
  soundSizeRight.fn (c' := cxSizeProof) (caps := []) ⟨rfl, rfl, rfl, rfl, rfl, rfl, rfl, rfl⟩ rfl tab_ok eq_ok fk_ok mt_ok mix_ok Try.func46 (by kernel_rfl) (fun _ => rfl) (lst1_of linkSizeProof)

noncomputable def cxTallyMay : Ctx := ⟨lookT tiTab, kk, gSizeProof, gv, frs, lookN ftyOf, lookG sigTab, [], 22, [], [], lookL [], lookF fkTab, lookM mtTab, lookL [], lookH [(1, ⟨[1], [], [], [(0, [(2, .sc (.k .b))])], []⟩)], lookH [], lookH []⟩
noncomputable def dTallyMay (a : MV) : Option MV :=
 gA a fun cs =>
 gC cs fun m msA =>
 gI .i64 m fun By =>
 gC msA fun m1 msA1 =>
 gI .i64 m1 fun View =>
 gC msA1 fun m2 msA2 =>
 gS m2 fun Value =>
 gN msA2 <|
 bd (
 ifB (decide ((0 : Int) ≤ By)) (
 ifB (decide ((0 : Int) ≤ View)) (
 ifB (decide (View ≤ 100000)) (
 some [.b (decide ((Value.length : Int) ≤ 6000))]) (
 some [.b false])) (
 some [.b false])) (
 some [.b false])) fun vs =>
 gC vs fun m3 msA3 =>
 gB m3 fun x =>
 gN msA3 <|
 some (.b x)
theorem linkTallyMay (a : MV) : bodyK cxTallyMay [] none Try.f96 [a] = dTallyMay a := by kernel_rfl
noncomputable def gTallyMay : Nat → List MV → Option MV := addG 96 (lst1 dTallyMay) gSizeProof
theorem soundTallyMay : SoundG Try.prog cx gTallyMay :=
  soundSizeProof.fn (c' := cxTallyMay) (caps := []) ⟨rfl, rfl, rfl, rfl, rfl, rfl, rfl, rfl⟩ rfl tab_ok eq_ok fk_ok mt_ok mix_ok Try.func96 (by kernel_rfl) (fun _ => rfl) (lst1_of linkTallyMay)

noncomputable def cxTallyRight : Ctx := ⟨lookT tiTab, kk, gTallyMay, gv, frs, lookN ftyOf, lookG sigTab, [], 33, [], [], lookL [], lookF fkTab, lookM mtTab, lookL [(4, [0, 1, 2, 3, 4, 5, 6, 7, 8, 9, 10, 11, 12, 13, 14, 15, 16, 17, 18])], lookH [(4, ⟨[1, 3, 4, 6, 7, 8], [], [], [(0, [(31, .sc (.k .b))])], []⟩)], lookH [], lookH [(2, ⟨[1, 6, 7], [], [(8, .sc (.k (.i .i64)))], [(1, [(2, .sc (.k .b))]), (2, [])], []⟩)]⟩
noncomputable def dTallyRight (t : MV) : Option MV :=
 gA t fun cs =>
 gC cs fun m msA =>
 gL m fun L =>
 gN msA <|
 lenN L fun len =>
 bd (Loop (fun msA1 =>
 gC msA1 fun m1 msA2 =>
 gI .i64 m1 fun x =>
 gN msA2 <|
 ifB (decide (x < (len : Int))) (
 idx L x fun y =>
 gA y fun cs1 =>
 gC cs1 fun m2 msA3 =>
 gI .i64 m2 fun By =>
 gC msA3 fun m3 msA4 =>
 gI .i64 m3 fun View =>
 gC msA4 fun m4 msA5 =>
 gS m4 fun Value =>
 gN msA5 <|
 bd (
 bd (dTallyMay (.agg [.i .i64 By, .i .i64 View, .s Value])) fun rA =>
 gB rA fun x1 =>
 ifB (!x1) (
 some [.b true]) (
 ifB (decide ((0 : Int) < x)) (
 idx L (IntKind.wrap .i64 (x - 1)) fun y1 =>
 gA y1 fun cs2 =>
 gC cs2 fun m5 msA6 =>
 gI .i64 m5 fun By1 =>
 gC msA6 fun m6 msA7 =>
 gI .i64 m6 fun View1 =>
 gC msA7 fun m7 msA8 =>
 gS m7 fun Value1 =>
 gN msA8 <|
 some [.b (decide (By ≤ By1))]) (
 some [.b false]))) fun vs =>
 gC vs fun m8 msA9 =>
 gB m8 fun x2 =>
 gN msA9 <|
 ifB x2 (
 some (.inr (1, [.b false]))) (
 some (.inl [.i .i64 (IntKind.wrap .i64 (x + 1))]))) (
 some (.inr (2, [])))) [.i .i64 0]) fun p =>
 ifB (Nat.beq p.1 2) (
 gN p.2 <|
 some (.b true)) (
 chk (Nat.beq p.1 1) <|
 gC p.2 fun m9 msA10 =>
 gB m9 fun x3 =>
 gN msA10 <|
 some (.b x3))
theorem linkTallyRight (t : MV) : bodyK cxTallyRight [] none Try.f66 [t] = dTallyRight t := by kernel_rfl
noncomputable def gTallyRight : Nat → List MV → Option MV := addG 66 (lst1 dTallyRight) gTallyMay
theorem soundTallyRight : SoundG Try.prog cx gTallyRight :=
  soundTallyMay.fn (c' := cxTallyRight) (caps := []) ⟨rfl, rfl, rfl, rfl, rfl, rfl, rfl, rfl⟩ rfl tab_ok eq_ok fk_ok mt_ok mix_ok Try.func66 (by kernel_rfl) (fun _ => rfl) (lst1_of linkTallyRight)

noncomputable def cxTallyVoters : Ctx := ⟨lookT tiTab, kk, gTallyRight, gv, frs, lookN ftyOf, lookG sigTab, [], 33, [29], [], lookL [], lookF fkTab, lookM mtTab, lookL [], lookH [(5, ⟨[1, 2, 7, 9, 11, 12, 13], [30], [], [(0, [(26, .sc (.k .b))])], [29, 30]⟩)], lookH [(6, ⟨[1, 2, 9, 11, 12, 13], [], [], [(0, [(7, .sc (.own 30 72 true))])], [29, 30]⟩)], lookH [(3, ⟨[1, 2, 11, 12], [], [(7, .sc (.own 30 72 true)), (13, .sc (.k (.i .i64)))], [(2, [(7, .sc (.own 30 72 true))])], [29, 30]⟩)]⟩
noncomputable def dTallyVoters (t view value : MV) : Option MV :=
 gA t fun cs =>
 gC cs fun m msA =>
 gL m fun L =>
 gN msA <|
 gI .i64 view fun view1 =>
 gS value fun value1 =>
 lenN L fun len =>
 bd (Loop (fun msA1 =>
 gC msA1 fun m1 msA2 =>
 gL m1 fun out =>
 gC msA2 fun m2 msA3 =>
 gI .i64 m2 fun x =>
 gN msA3 <|
 ifB (decide (x < (len : Int))) (
 idx L x fun y =>
 gA y fun cs1 =>
 gC cs1 fun m3 msA4 =>
 gI .i64 m3 fun By =>
 gC msA4 fun m4 msA5 =>
 gI .i64 m4 fun View =>
 gC msA5 fun m5 msA6 =>
 gS m5 fun Value =>
 gN msA6 <|
 bd (
 ifB (decide (View = view1)) (
 some [.b (decide (Value = value1))]) (
 some [.b false])) fun vs =>
 gC vs fun m6 msA7 =>
 gB m6 fun x1 =>
 gN msA7 <|
 bd (
 ifB x1 (
 lenN out fun len1 =>
 lenN ([.agg [.i .i64 By, .i .i64 View, .s Value]] : List MV) fun len2 =>
 chk (decide ((len1 + len2) * 32 ≤ 2 ^ 46)) <|
 some (0, [.list (out ++ ([.agg [.i .i64 By, .i .i64 View, .s Value]] : List MV))])) (
 some (0, [.list out]))) fun p1 =>
 chk (Nat.beq p1.1 0) <|
 gC p1.2 fun m7 msA8 =>
 gL m7 fun out1 =>
 gN msA8 <|
 some (.inl [.list out1, .i .i64 (IntKind.wrap .i64 (x + 1))])) (
 some (.inr (2, [.list out])))) [.list ([] : List MV), .i .i64 0]) fun p =>
 chk (Nat.beq p.1 2) <|
 gC p.2 fun m8 msA9 =>
 gL m8 fun out2 =>
 gN msA9 <|
 some (.list out2)
theorem linkTallyVoters (t view value : MV) : bodyK cxTallyVoters [] none Try.f119 [t, view, value] = dTallyVoters t view value := by kernel_rfl
noncomputable def gTallyVoters : Nat → List MV → Option MV := addG 119 (lst3 dTallyVoters) gTallyRight
theorem soundTallyVoters : SoundG Try.prog cx gTallyVoters :=
  soundTallyRight.fn (c' := cxTallyVoters) (caps := []) ⟨rfl, rfl, rfl, rfl, rfl, rfl, rfl, rfl⟩ rfl tab_ok eq_ok fk_ok mt_ok mix_ok Try.func119 (by kernel_rfl) (fun _ => rfl) (lst3_of linkTallyVoters)

noncomputable def cxTallyCount : Ctx := ⟨lookT tiTab, kk, gTallyVoters, gv, frs, lookN ftyOf, lookG sigTab, [], 12, [], [], lookL [], lookF fkTab, lookM mtTab, lookL [], lookH [], lookH [], lookH []⟩
noncomputable def dTallyCount (t view value : MV) : Option MV :=
 gA t fun cs =>
 gC cs fun m msA =>
 gL m fun L =>
 gN msA <|
 gI .i64 view fun view1 =>
 gS value fun value1 =>
 bd (dTallyVoters (.agg [.list L]) (.i .i64 view1) (.s value1)) fun rA =>
 gL rA fun x =>
 lenN x fun len =>
 some (.i .i64 (len : Int))
theorem linkTallyCount (t view value : MV) : bodyK cxTallyCount [] none Try.f110 [t, view, value] = dTallyCount t view value := by kernel_rfl
noncomputable def gTallyCount : Nat → List MV → Option MV := addG 110 (lst3 dTallyCount) gTallyVoters
theorem soundTallyCount : SoundG Try.prog cx gTallyCount :=
  soundTallyVoters.fn (c' := cxTallyCount) (caps := []) ⟨rfl, rfl, rfl, rfl, rfl, rfl, rfl, rfl⟩ rfl tab_ok eq_ok fk_ok mt_ok mix_ok Try.func110 (by kernel_rfl) (fun _ => rfl) (lst3_of linkTallyCount)

noncomputable def cxProofRight : Ctx := ⟨lookT tiTab, kk, gTallyCount, gv, frs, lookN ftyOf, lookG sigTab, [], 47, [], [], lookL [], lookF fkTab, lookM mtTab, lookL [(3, [0, 1, 2, 3, 4, 5, 6, 7, 8, 9, 10, 11, 12, 13, 14, 15, 16, 17, 18, 19, 20, 22, 23, 21, 24, 25, 26])], lookH [(3, ⟨[1, 2], [], [], [(0, [(4, .sc (.k .b))])], []⟩), (1, ⟨[1, 2], [], [], [(0, [(20, .sc (.k .b))])], []⟩)], lookH [], lookH []⟩
noncomputable def dProofRight (sA p : MV) : Option MV :=
 gA sA fun cs =>
 gC cs fun m msA =>
 gI .i64 m fun F =>
 gC msA fun m1 msA1 =>
 gI .i64 m1 fun T =>
 gN msA1 <|
 gL p fun p1 =>
 bd (
 bd (dSizeRight (.agg [.i .i64 F, .i .i64 T])) fun rA =>
 gB rA fun x =>
 ifB (!x) (
 some [.b true]) (
 lenN p1 fun len =>
 bd (dSizeProof (.agg [.i .i64 F, .i .i64 T])) fun rA1 =>
 gI .i64 rA1 fun x1 =>
 ifB (!decide ((len : Int) = x1)) (
 some [.b true]) (
 bd (dTallyRight (.agg [.list p1])) fun rA2 =>
 gB rA2 fun x2 =>
 some [.b (!x2)]))) fun vs =>
 gC vs fun m2 msA2 =>
 gB m2 fun x3 =>
 gN msA2 <|
 ifB x3 (
 some (.b false)) (
 bd (
 lenN p1 fun len1 =>
 idx p1 (IntKind.wrap .i64 ((len1 : Int) - 1)) fun y =>
 gA y fun cs1 =>
 gC cs1 fun m3 msA3 =>
 gI .i64 m3 fun By =>
 gC msA3 fun m4 msA4 =>
 gI .i64 m4 fun View =>
 gC msA4 fun m5 msA5 =>
 gS m5 fun Value =>
 gN msA5 <|
 bd (dSizeN (.agg [.i .i64 F, .i .i64 T])) fun rA3 =>
 gI .i64 rA3 fun x4 =>
 ifB (decide (By < x4)) (
 idx p1 0 fun y1 =>
 gA y1 fun cs2 =>
 gC cs2 fun m6 msA6 =>
 gI .i64 m6 fun By1 =>
 gC msA6 fun m7 msA7 =>
 gI .i64 m7 fun View1 =>
 gC msA7 fun m8 msA8 =>
 gS m8 fun Value1 =>
 gN msA8 <|
 idx p1 0 fun y2 =>
 gA y2 fun cs3 =>
 gC cs3 fun m9 msA9 =>
 gI .i64 m9 fun By2 =>
 gC msA9 fun m10 msA10 =>
 gI .i64 m10 fun View2 =>
 gC msA10 fun m11 msA11 =>
 gS m11 fun Value2 =>
 gN msA11 <|
 lenN p1 fun len2 =>
 bd (dTallyCount (.agg [.list p1]) (.i .i64 View1) (.s Value2)) fun rA4 =>
 gI .i64 rA4 fun x5 =>
 some [.b (decide (x5 = (len2 : Int)))]) (
 some [.b false])) fun vs1 =>
 gC vs1 fun m12 msA12 =>
 gB m12 fun x6 =>
 gN msA12 <|
 some (.b x6))
theorem linkProofRight (sA p : MV) : bodyK cxProofRight [] none Try.f88 [sA, p] = dProofRight sA p := by kernel_rfl
noncomputable def gProofRight : Nat → List MV → Option MV := addG 88 (lst2 dProofRight) gTallyCount
theorem soundProofRight : SoundG Try.prog cx gProofRight :=
  soundTallyCount.fn (c' := cxProofRight) (caps := []) ⟨rfl, rfl, rfl, rfl, rfl, rfl, rfl, rfl⟩ rfl tab_ok eq_ok fk_ok mt_ok mix_ok Try.func88 (by kernel_rfl) (fun _ => rfl) (lst2_of linkProofRight)

noncomputable def cxProofOf : Ctx := ⟨lookT tiTab, kk, gProofRight, gv, frs, lookN ftyOf, lookG sigTab, [], 16, [], [], lookL [], lookF fkTab, lookM mtTab, lookL [(3, [0, 1, 2, 3, 4, 5, 6, 7, 8, 9, 10])], lookH [], lookH [], lookH []⟩
noncomputable def dProofOf (p : MV) : Option MV :=
 gL p fun p1 =>
 lenN p1 fun len =>
 ifB (decide ((len : Int) = 0)) (
 some (.tup [.i .i64 (-1), .s ([] : List UInt8), .b false])) (
 idx p1 0 fun y =>
 gA y fun cs =>
 gC cs fun m msA =>
 gI .i64 m fun By =>
 gC msA fun m1 msA1 =>
 gI .i64 m1 fun View =>
 gC msA1 fun m2 msA2 =>
 gS m2 fun Value =>
 gN msA2 <|
 idx p1 0 fun y1 =>
 gA y1 fun cs1 =>
 gC cs1 fun m3 msA3 =>
 gI .i64 m3 fun By1 =>
 gC msA3 fun m4 msA4 =>
 gI .i64 m4 fun View1 =>
 gC msA4 fun m5 msA5 =>
 gS m5 fun Value1 =>
 gN msA5 <|
 some (.tup [.i .i64 View, .s Value1, .b true]))
theorem linkProofOf (p : MV) : bodyK cxProofOf [] none Try.f80 [p] = dProofOf p := by kernel_rfl
noncomputable def gProofOf : Nat → List MV → Option MV := addG 80 (lst1 dProofOf) gProofRight
theorem soundProofOf : SoundG Try.prog cx gProofOf :=
  soundProofRight.fn (c' := cxProofOf) (caps := []) ⟨rfl, rfl, rfl, rfl, rfl, rfl, rfl, rfl⟩ rfl tab_ok eq_ok fk_ok mt_ok mix_ok Try.func80 (by kernel_rfl) (fun _ => rfl) (lst1_of linkProofOf)

noncomputable def cxR07Right : Ctx := ⟨lookT tiTab, kk, gProofOf, gv, frs, lookN ftyOf, lookG sigTab, [], 23, [], [], lookL [], lookF fkTab, lookM mtTab, lookL [], lookH [(1, ⟨[1], [], [], [(0, [(2, .sc (.k .b))])], []⟩)], lookH [], lookH []⟩
noncomputable def dR07Right (sA : MV) : Option MV :=
 gA sA fun cs =>
 gC cs fun m msA =>
 gI .i64 m fun F =>
 gC msA fun m1 msA1 =>
 gI .i64 m1 fun T =>
 gN msA1 <|
 bd (
 ifB (decide ((1 : Int) ≤ F)) (
 ifB (decide (F ≤ 5)) (
 ifB (decide ((0 : Int) ≤ T)) (
 some [.b (decide (T ≤ F))]) (
 some [.b false])) (
 some [.b false])) (
 some [.b false])) fun vs =>
 gC vs fun m2 msA2 =>
 gB m2 fun x =>
 gN msA2 <|
 some (.b x)
theorem linkR07Right (sA : MV) : bodyK cxR07Right [] none Try.f62 [sA] = dR07Right sA := by kernel_rfl
noncomputable def gR07Right : Nat → List MV → Option MV := addG 62 (lst1 dR07Right) gProofOf
theorem soundR07Right : SoundG Try.prog cx gR07Right :=
  soundProofOf.fn (c' := cxR07Right) (caps := []) ⟨rfl, rfl, rfl, rfl, rfl, rfl, rfl, rfl⟩ rfl tab_ok eq_ok fk_ok mt_ok mix_ok Try.func62 (by kernel_rfl) (fun _ => rfl) (lst1_of linkR07Right)

noncomputable def cxR07N : Ctx := ⟨lookT tiTab, kk, gR07Right, gv, frs, lookN ftyOf, lookG sigTab, [], 11, [], [], lookL [], lookF fkTab, lookM mtTab, lookL [], lookH [], lookH [], lookH []⟩
noncomputable def dR07N (sA : MV) : Option MV :=
 gA sA fun cs =>
 gC cs fun m msA =>
 gI .i64 m fun F =>
 gC msA fun m1 msA1 =>
 gI .i64 m1 fun T =>
 gN msA1 <|
 some (.i .i64 (IntKind.wrap .i64 ((IntKind.wrap .i64 ((IntKind.wrap .i64 (3 * F)) + (IntKind.wrap .i64 (2 * T)))) + 1)))
theorem linkR07N (sA : MV) : bodyK cxR07N [] none Try.f63 [sA] = dR07N sA := by kernel_rfl
noncomputable def gR07N : Nat → List MV → Option MV := addG 63 (lst1 dR07N) gR07Right
theorem soundR07N : SoundG Try.prog cx gR07N :=
  soundR07Right.fn (c' := cxR07N) (caps := []) ⟨rfl, rfl, rfl, rfl, rfl, rfl, rfl, rfl⟩ rfl tab_ok eq_ok fk_ok mt_ok mix_ok Try.func63 (by kernel_rfl) (fun _ => rfl) (lst1_of linkR07N)

noncomputable def cxR18Same : Ctx := ⟨lookT tiTab, kk, gR07N, gv, frs, lookN ftyOf, lookG sigTab, [], 26, [], [], lookL [], lookF fkTab, lookM mtTab, lookL [(6, [0, 1, 2, 3, 4, 5, 6, 7, 8])], lookH [], lookH [], lookH [(4, ⟨[0, 1], [], [(5, .sc (.k (.i .i64)))], [(1, [(4, .sc (.k .b))]), (2, [])], []⟩)]⟩
noncomputable def dR18Same (a b : MV) : Option MV :=
 gL a fun a1 =>
 gL b fun b1 =>
 lenN a1 fun len =>
 lenN b1 fun len1 =>
 ifB (!decide ((len : Int) = (len1 : Int))) (
 some (.b false)) (
 bd (Loop (fun msA =>
 gC msA fun m msA1 =>
 gI .i64 m fun i =>
 gN msA1 <|
 lenN a1 fun len2 =>
 ifB (decide (i < (len2 : Int))) (
 idx a1 i fun y =>
 gA y fun cs =>
 gC cs fun m1 msA2 =>
 gI .i64 m1 fun By =>
 gC msA2 fun m2 msA3 =>
 gI .i64 m2 fun View =>
 gC msA3 fun m3 msA4 =>
 gS m3 fun Value =>
 gN msA4 <|
 idx b1 i fun y1 =>
 gA y1 fun cs1 =>
 gC cs1 fun m4 msA5 =>
 gI .i64 m4 fun By1 =>
 gC msA5 fun m5 msA6 =>
 gI .i64 m5 fun View1 =>
 gC msA6 fun m6 msA7 =>
 gS m6 fun Value1 =>
 gN msA7 <|
 ifB (!((decide (By = By1)) && ((decide (View = View1)) && (decide (Value = Value1))))) (
 some (.inr (1, [.b false]))) (
 some (.inl [.i .i64 (IntKind.wrap .i64 (i + 1))]))) (
 some (.inr (2, [])))) [.i .i64 0]) fun p =>
 ifB (Nat.beq p.1 2) (
 gN p.2 <|
 some (.b true)) (
 chk (Nat.beq p.1 1) <|
 gC p.2 fun m7 msA8 =>
 gB m7 fun x =>
 gN msA8 <|
 some (.b x)))
theorem linkR18Same (a b : MV) : bodyK cxR18Same [] none Try.f58 [a, b] = dR18Same a b := by kernel_rfl
noncomputable def gR18Same : Nat → List MV → Option MV := addG 58 (lst2 dR18Same) gR07N
theorem soundR18Same : SoundG Try.prog cx gR18Same :=
  soundR07N.fn (c' := cxR18Same) (caps := []) ⟨rfl, rfl, rfl, rfl, rfl, rfl, rfl, rfl⟩ rfl tab_ok eq_ok fk_ok mt_ok mix_ok Try.func58 (by kernel_rfl) (fun _ => rfl) (lst2_of linkR18Same)

noncomputable def cxR18May : Ctx := ⟨lookT tiTab, kk, gR18Same, gv, frs, lookN ftyOf, lookG sigTab, [], 22, [], [], lookL [], lookF fkTab, lookM mtTab, lookL [], lookH [(1, ⟨[1], [], [], [(0, [(2, .sc (.k .b))])], []⟩)], lookH [], lookH []⟩
noncomputable def dR18May (a : MV) : Option MV :=
 gA a fun cs =>
 gC cs fun m msA =>
 gI .i64 m fun By =>
 gC msA fun m1 msA1 =>
 gI .i64 m1 fun View =>
 gC msA1 fun m2 msA2 =>
 gS m2 fun Value =>
 gN msA2 <|
 bd (
 ifB (decide ((0 : Int) ≤ By)) (
 ifB (decide ((0 : Int) ≤ View)) (
 ifB (decide (View ≤ 100000)) (
 some [.b (decide ((Value.length : Int) ≤ 6000))]) (
 some [.b false])) (
 some [.b false])) (
 some [.b false])) fun vs =>
 gC vs fun m3 msA3 =>
 gB m3 fun x =>
 gN msA3 <|
 some (.b x)
theorem linkR18May (a : MV) : bodyK cxR18May [] none Try.f85 [a] = dR18May a := by kernel_rfl
noncomputable def gR18May : Nat → List MV → Option MV := addG 85 (lst1 dR18May) gR18Same
theorem soundR18May : SoundG Try.prog cx gR18May :=
  soundR18Same.fn (c' := cxR18May) (caps := []) ⟨rfl, rfl, rfl, rfl, rfl, rfl, rfl, rfl⟩ rfl tab_ok eq_ok fk_ok mt_ok mix_ok Try.func85 (by kernel_rfl) (fun _ => rfl) (lst1_of linkR18May)

noncomputable def cxR18Right : Ctx := ⟨lookT tiTab, kk, gR18May, gv, frs, lookN ftyOf, lookG sigTab, [], 38, [], [], lookL [], lookF fkTab, lookM mtTab, lookL [(4, [0, 1, 2, 3, 4, 5, 6, 7, 8, 9, 10, 11, 12, 13, 14, 15, 16, 17, 18, 19, 20, 21, 22, 23, 24, 25, 26])], lookH [(4, ⟨[1, 3], [], [], [(0, [(37, .sc (.k .b))])], []⟩)], lookH [], lookH [(2, ⟨[1], [], [(3, .sc (.k (.i .i64)))], [(1, [(2, .sc (.k .b))]), (2, [])], []⟩)]⟩
noncomputable def dR18Right (t : MV) : Option MV :=
 gA t fun cs =>
 gC cs fun m msA =>
 gL m fun L =>
 gN msA <|
 bd (Loop (fun msA1 =>
 gC msA1 fun m1 msA2 =>
 gI .i64 m1 fun i =>
 gN msA2 <|
 lenN L fun len =>
 ifB (decide (i < (len : Int))) (
 bd (
 idx L i fun y =>
 gA y fun cs1 =>
 gC cs1 fun m2 msA3 =>
 gI .i64 m2 fun By =>
 gC msA3 fun m3 msA4 =>
 gI .i64 m3 fun View =>
 gC msA4 fun m4 msA5 =>
 gS m4 fun Value =>
 gN msA5 <|
 bd (dR18May (.agg [.i .i64 By, .i .i64 View, .s Value])) fun rA =>
 gB rA fun x =>
 ifB (!x) (
 some [.b true]) (
 ifB (decide ((0 : Int) < i)) (
 idx L (IntKind.wrap .i64 (i - 1)) fun y1 =>
 gA y1 fun cs2 =>
 gC cs2 fun m5 msA6 =>
 gI .i64 m5 fun By1 =>
 gC msA6 fun m6 msA7 =>
 gI .i64 m6 fun View1 =>
 gC msA7 fun m7 msA8 =>
 gS m7 fun Value1 =>
 gN msA8 <|
 idx L i fun y2 =>
 gA y2 fun cs3 =>
 gC cs3 fun m8 msA9 =>
 gI .i64 m8 fun By2 =>
 gC msA9 fun m9 msA10 =>
 gI .i64 m9 fun View2 =>
 gC msA10 fun m10 msA11 =>
 gS m10 fun Value2 =>
 gN msA11 <|
 some [.b (decide (By2 ≤ By1))]) (
 some [.b false]))) fun vs =>
 gC vs fun m11 msA12 =>
 gB m11 fun x1 =>
 gN msA12 <|
 ifB x1 (
 some (.inr (1, [.b false]))) (
 some (.inl [.i .i64 (IntKind.wrap .i64 (i + 1))]))) (
 some (.inr (2, [])))) [.i .i64 0]) fun p =>
 ifB (Nat.beq p.1 2) (
 gN p.2 <|
 some (.b true)) (
 chk (Nat.beq p.1 1) <|
 gC p.2 fun m12 msA13 =>
 gB m12 fun x2 =>
 gN msA13 <|
 some (.b x2))
theorem linkR18Right (t : MV) : bodyK cxR18Right [] none Try.f67 [t] = dR18Right t := by kernel_rfl
noncomputable def gR18Right : Nat → List MV → Option MV := addG 67 (lst1 dR18Right) gR18May
theorem soundR18Right : SoundG Try.prog cx gR18Right :=
  soundR18May.fn (c' := cxR18Right) (caps := []) ⟨rfl, rfl, rfl, rfl, rfl, rfl, rfl, rfl⟩ rfl tab_ok eq_ok fk_ok mt_ok mix_ok Try.func67 (by kernel_rfl) (fun _ => rfl) (lst1_of linkR18Right)

noncomputable def cxR07Proof : Ctx := ⟨lookT tiTab, kk, gR18Right, gv, frs, lookN ftyOf, lookG sigTab, [], 10, [], [], lookL [], lookF fkTab, lookM mtTab, lookL [], lookH [], lookH [], lookH []⟩
noncomputable def dR07Proof (sA : MV) : Option MV :=
 gA sA fun cs =>
 gC cs fun m msA =>
 gI .i64 m fun F =>
 gC msA fun m1 msA1 =>
 gI .i64 m1 fun T =>
 gN msA1 <|
 some (.i .i64 (IntKind.wrap .i64 ((IntKind.wrap .i64 ((IntKind.wrap .i64 (2 * F)) + T)) + 1)))
theorem linkR07Proof (sA : MV) : bodyK cxR07Proof [] none Try.f89 [sA] = dR07Proof sA := by kernel_rfl
noncomputable def gR07Proof : Nat → List MV → Option MV := addG 89 (lst1 dR07Proof) gR18Right
theorem soundR07Proof : SoundG Try.prog cx gR07Proof :=
  soundR18Right.fn (c' := cxR07Proof) (caps := []) ⟨rfl, rfl, rfl, rfl, rfl, rfl, rfl, rfl⟩ rfl tab_ok eq_ok fk_ok mt_ok mix_ok Try.func89 (by kernel_rfl) (fun _ => rfl) (lst1_of linkR07Proof)

noncomputable def cxR19Right : Ctx := ⟨lookT tiTab, kk, gR07Proof, gv, frs, lookN ftyOf, lookG sigTab, [], 70, [], [], lookL [], lookF fkTab, lookM mtTab, lookL [(7, [0, 1, 2, 3, 4, 5, 6, 7, 8, 9, 10, 11, 12, 13, 14, 15, 16, 17, 18, 19, 20, 21, 22, 23, 24, 25, 26, 27, 28, 29, 30, 31, 32, 33, 34, 35, 36, 37, 38, 39, 40, 41, 42])], lookH [(7, ⟨[1, 2, 5, 6], [], [], [(0, [(69, .sc (.k .b))])], []⟩), (1, ⟨[1, 2], [], [], [(0, [(16, .sc (.k .b))])], []⟩)], lookH [], lookH [(4, ⟨[1, 2], [], [(5, .sc (.k (.i .i64)))], [(1, [(4, .sc (.k .b))]), (2, [])], []⟩)]⟩
noncomputable def dR19Right (a a1 : MV) : Option MV :=
 gA a fun cs =>
 gC cs fun m msA =>
 gI .i64 m fun F =>
 gC msA fun m1 msA1 =>
 gI .i64 m1 fun T =>
 gN msA1 <|
 gL a1 fun a1N1 =>
 bd (
 bd (dR07Right (.agg [.i .i64 F, .i .i64 T])) fun rA =>
 gB rA fun x =>
 ifB (!x) (
 some [.b true]) (
 lenN a1N1 fun len =>
 bd (dR07Proof (.agg [.i .i64 F, .i .i64 T])) fun rA1 =>
 gI .i64 rA1 fun x1 =>
 some [.b (!decide ((len : Int) = x1))])) fun vs =>
 gC vs fun m2 msA2 =>
 gB m2 fun x2 =>
 gN msA2 <|
 ifB x2 (
 some (.b false)) (
 bd (Loop (fun msA3 =>
 gC msA3 fun m3 msA4 =>
 gI .i64 m3 fun x3 =>
 gN msA4 <|
 lenN a1N1 fun len1 =>
 ifB (decide (x3 < (len1 : Int))) (
 idx a1N1 x3 fun y =>
 gA y fun cs1 =>
 gC cs1 fun m4 msA5 =>
 gI .i64 m4 fun By =>
 gC msA5 fun m5 msA6 =>
 gI .i64 m5 fun View =>
 gC msA6 fun m6 msA7 =>
 gS m6 fun Value =>
 gN msA7 <|
 bd (
 bd (dR18May (.agg [.i .i64 By, .i .i64 View, .s Value])) fun rA2 =>
 gB rA2 fun x4 =>
 ifB (!x4) (
 some [.b true]) (
 bd (dR07N (.agg [.i .i64 F, .i .i64 T])) fun rA3 =>
 gI .i64 rA3 fun x5 =>
 ifB (decide (x5 ≤ By)) (
 some [.b true]) (
 idx a1N1 0 fun y1 =>
 gA y1 fun cs2 =>
 gC cs2 fun m7 msA8 =>
 gI .i64 m7 fun By1 =>
 gC msA8 fun m8 msA9 =>
 gI .i64 m8 fun View1 =>
 gC msA9 fun m9 msA10 =>
 gS m9 fun Value1 =>
 gN msA10 <|
 ifB (!decide (View = View1)) (
 some [.b true]) (
 idx a1N1 0 fun y2 =>
 gA y2 fun cs3 =>
 gC cs3 fun m10 msA11 =>
 gI .i64 m10 fun By2 =>
 gC msA11 fun m11 msA12 =>
 gI .i64 m11 fun View2 =>
 gC msA12 fun m12 msA13 =>
 gS m12 fun Value2 =>
 gN msA13 <|
 ifB (!decide (Value = Value2)) (
 some [.b true]) (
 ifB (decide ((0 : Int) < x3)) (
 idx a1N1 (IntKind.wrap .i64 (x3 - 1)) fun y3 =>
 gA y3 fun cs4 =>
 gC cs4 fun m13 msA14 =>
 gI .i64 m13 fun By3 =>
 gC msA14 fun m14 msA15 =>
 gI .i64 m14 fun View3 =>
 gC msA15 fun m15 msA16 =>
 gS m15 fun Value3 =>
 gN msA16 <|
 some [.b (decide (By ≤ By3))]) (
 some [.b false])))))) fun vs1 =>
 gC vs1 fun m16 msA17 =>
 gB m16 fun x6 =>
 gN msA17 <|
 ifB x6 (
 some (.inr (1, [.b false]))) (
 some (.inl [.i .i64 (IntKind.wrap .i64 (x3 + 1))]))) (
 some (.inr (2, [])))) [.i .i64 0]) fun p =>
 ifB (Nat.beq p.1 2) (
 gN p.2 <|
 some (.b true)) (
 chk (Nat.beq p.1 1) <|
 gC p.2 fun m17 msA18 =>
 gB m17 fun x7 =>
 gN msA18 <|
 some (.b x7)))
theorem linkR19Right (a a1 : MV) : bodyK cxR19Right [] none Try.f68 [a, a1] = dR19Right a a1 := by kernel_rfl
noncomputable def gR19Right : Nat → List MV → Option MV := addG 68 (lst2 dR19Right) gR07Proof
theorem soundR19Right : SoundG Try.prog cx gR19Right :=
  soundR07Proof.fn (c' := cxR19Right) (caps := []) ⟨rfl, rfl, rfl, rfl, rfl, rfl, rfl, rfl⟩ rfl tab_ok eq_ok fk_ok mt_ok mix_ok Try.func68 (by kernel_rfl) (fun _ => rfl) (lst2_of linkR19Right)

noncomputable def cxL22Votes : Ctx := ⟨lookT tiTab, kk, gR19Right, gv, frs, lookN ftyOf, lookG sigTab, [], 21, [], [], lookL [], lookF fkTab, lookM mtTab, lookL [], lookH [(4, ⟨[0, 3], [], [], [(0, [(20, .sc (.k .b))])], []⟩)], lookH [], lookH [(2, ⟨[0], [], [(3, .sc (.k (.i .i64)))], [(1, [(2, .sc (.k .b))]), (2, [])], []⟩)]⟩
noncomputable def dL22Votes (lA : MV) : Option MV :=
 gL lA fun lA1 =>
 bd (Loop (fun msA =>
 gC msA fun m msA1 =>
 gI .i64 m fun i =>
 gN msA1 <|
 lenN lA1 fun len =>
 ifB (decide (i < (len : Int))) (
 bd (
 ifB (decide (i = 40)) (
 some [.b true]) (
 idx lA1 i fun y =>
 gA y fun cs =>
 gC cs fun m1 msA2 =>
 gI .i64 m1 fun By =>
 gC msA2 fun m2 msA3 =>
 gI .i64 m2 fun View =>
 gC msA3 fun m3 msA4 =>
 gS m3 fun Value =>
 gN msA4 <|
 some [.b (decide ((6100 : Int) < (Value.length : Int)))])) fun vs =>
 gC vs fun m4 msA5 =>
 gB m4 fun x =>
 gN msA5 <|
 ifB x (
 some (.inr (1, [.b false]))) (
 some (.inl [.i .i64 (IntKind.wrap .i64 (i + 1))]))) (
 some (.inr (2, [])))) [.i .i64 0]) fun p =>
 ifB (Nat.beq p.1 2) (
 gN p.2 <|
 some (.b true)) (
 chk (Nat.beq p.1 1) <|
 gC p.2 fun m5 msA6 =>
 gB m5 fun x1 =>
 gN msA6 <|
 some (.b x1))
theorem linkL22Votes (lA : MV) : bodyK cxL22Votes [] none Try.f38 [lA] = dL22Votes lA := by kernel_rfl
noncomputable def gL22Votes : Nat → List MV → Option MV := addG 38 (lst1 dL22Votes) gR19Right
theorem soundL22Votes : SoundG Try.prog cx gL22Votes :=
  soundR19Right.fn (c' := cxL22Votes) (caps := []) ⟨rfl, rfl, rfl, rfl, rfl, rfl, rfl, rfl⟩ rfl tab_ok eq_ok fk_ok mt_ok mix_ok Try.func38 (by kernel_rfl) (fun _ => rfl) (lst1_of linkL22Votes)

noncomputable def cxL22Few : Ctx := ⟨lookT tiTab, kk, gL22Votes, gv, frs, lookN ftyOf, lookG sigTab, [], 25, [], [], lookL [], lookF fkTab, lookM mtTab, lookL [], lookH [(1, ⟨[1], [], [], [(0, [(2, .sc (.k .b))])], []⟩)], lookH [], lookH []⟩
noncomputable def dL22Few (lA : MV) : Option MV :=
 gA lA fun cs =>
 gC cs fun m msA =>
 gI .i64 m fun SF =>
 gC msA fun m1 msA1 =>
 gI .i64 m1 fun ST =>
 gC msA1 fun m2 msA2 =>
 gL m2 fun AcceptsL =>
 gC msA2 fun m3 msA3 =>
 gL m3 fun CommitsL =>
 gC msA3 fun m4 msA4 =>
 gL m4 fun ToldL =>
 gC msA4 fun m5 msA5 =>
 gB m5 fun Done =>
 gC msA5 fun m6 msA6 =>
 gS m6 fun Value =>
 gN msA6 <|
 bd (
 ifB (decide ((Value.length : Int) ≤ 6100)) (
 bd (dL22Votes (.list AcceptsL)) fun rA =>
 gB rA fun x =>
 ifB x (
 bd (dL22Votes (.list CommitsL)) fun rA1 =>
 gB rA1 fun x1 =>
 ifB x1 (
 bd (dL22Votes (.list ToldL)) fun rA2 =>
 gB rA2 fun x2 =>
 some [.b x2]) (
 some [.b false])) (
 some [.b false])) (
 some [.b false])) fun vs =>
 gC vs fun m7 msA7 =>
 gB m7 fun x3 =>
 gN msA7 <|
 some (.b x3)
theorem linkL22Few (lA : MV) : bodyK cxL22Few [] none Try.f24 [lA] = dL22Few lA := by kernel_rfl
noncomputable def gL22Few : Nat → List MV → Option MV := addG 24 (lst1 dL22Few) gL22Votes
theorem soundL22Few : SoundG Try.prog cx gL22Few :=
  soundL22Votes.fn (c' := cxL22Few) (caps := []) ⟨rfl, rfl, rfl, rfl, rfl, rfl, rfl, rfl⟩ rfl tab_ok eq_ok fk_ok mt_ok mix_ok Try.func24 (by kernel_rfl) (fun _ => rfl) (lst1_of linkL22Few)

noncomputable def cxLearnerNew : Ctx := ⟨lookT tiTab, kk, gL22Few, gv, frs, lookN ftyOf, lookG sigTab, [], 10, [], [], lookL [], lookF fkTab, lookM mtTab, lookL [], lookH [], lookH [], lookH []⟩
noncomputable def dLearnerNew (sA : MV) : Option MV :=
 gA sA fun cs =>
 gC cs fun m msA =>
 gI .i64 m fun F =>
 gC msA fun m1 msA1 =>
 gI .i64 m1 fun T =>
 gN msA1 <|
 bd (dSizeRight (.agg [.i .i64 F, .i .i64 T])) fun rA =>
 gB rA fun x =>
 ifB (!x) (
 some (.tup [.agg [.i .i64 0, .i .i64 0, .list ([] : List MV), .list ([] : List MV), .list ([] : List MV), .b false, .s ([] : List UInt8)], .i .i64 1])) (
 some (.tup [.agg [.i .i64 F, .i .i64 T, .list ([] : List MV), .list ([] : List MV), .list ([] : List MV), .b false, .s ([] : List UInt8)], .i .i64 0]))
theorem linkLearnerNew (sA : MV) : bodyK cxLearnerNew [] none Try.f26 [sA] = dLearnerNew sA := by kernel_rfl
noncomputable def gLearnerNew : Nat → List MV → Option MV := addG 26 (lst1 dLearnerNew) gL22Few
theorem soundLearnerNew : SoundG Try.prog cx gLearnerNew :=
  soundL22Few.fn (c' := cxLearnerNew) (caps := []) ⟨rfl, rfl, rfl, rfl, rfl, rfl, rfl, rfl⟩ rfl tab_ok eq_ok fk_ok mt_ok mix_ok Try.func26 (by kernel_rfl) (fun _ => rfl) (lst1_of linkLearnerNew)

noncomputable def cxSizeWeak : Ctx := ⟨lookT tiTab, kk, gLearnerNew, gv, frs, lookN ftyOf, lookG sigTab, [], 5, [], [], lookL [], lookF fkTab, lookM mtTab, lookL [], lookH [], lookH [], lookH []⟩
noncomputable def dSizeWeak (sA : MV) : Option MV :=
 gA sA fun cs =>
 gC cs fun m msA =>
 gI .i64 m fun F =>
 gC msA fun m1 msA1 =>
 gI .i64 m1 fun T =>
 gN msA1 <|
 bd (dSizeSizeOf (.agg [.i .i64 F, .i .i64 T]) (.raw (.complex .f64 4607182418800017408 0))) fun rA =>
 gI .i64 rA fun x =>
 some (.i .i64 x)
theorem linkSizeWeak (sA : MV) : bodyK cxSizeWeak [] none Try.f48 [sA] = dSizeWeak sA := by kernel_rfl
noncomputable def gSizeWeak : Nat → List MV → Option MV := addG 48 (lst1 dSizeWeak) gLearnerNew
theorem soundSizeWeak : SoundG Try.prog cx gSizeWeak :=
  soundLearnerNew.fn (c' := cxSizeWeak) (caps := []) ⟨rfl, rfl, rfl, rfl, rfl, rfl, rfl, rfl⟩ rfl tab_ok eq_ok fk_ok mt_ok mix_ok Try.func48 (by kernel_rfl) (fun _ => rfl) (lst1_of linkSizeWeak)

noncomputable def cxCmpIsNaNInt : Ctx := ⟨lookT tiTab, kk, gSizeWeak, gv, frs, lookN ftyOf, lookG sigTab, [], 6, [], [], lookL [], lookF fkTab, lookM mtTab, lookL [], lookH [], lookH [], lookH []⟩
noncomputable def dCmpIsNaNInt (x : MV) : Option MV :=
 gI .i64 x fun x1 =>
 some (.b (!decide (x1 = x1)))
theorem linkCmpIsNaNInt (x : MV) : bodyK cxCmpIsNaNInt [] none Try.f133 [x] = dCmpIsNaNInt x := by kernel_rfl
noncomputable def gCmpIsNaNInt : Nat → List MV → Option MV := addG 133 (lst1 dCmpIsNaNInt) gSizeWeak
theorem soundCmpIsNaNInt : SoundG Try.prog cx gCmpIsNaNInt :=
  soundSizeWeak.fn (c' := cxCmpIsNaNInt) (caps := []) ⟨rfl, rfl, rfl, rfl, rfl, rfl, rfl, rfl⟩ rfl tab_ok eq_ok fk_ok mt_ok mix_ok Try.func133 (by kernel_rfl) (fun _ => rfl) (lst1_of linkCmpIsNaNInt)

noncomputable def cxCmpCompareInt : Ctx := ⟨lookT tiTab, kk, gCmpIsNaNInt, gv, frs, lookN ftyOf, lookG sigTab, [], 20, [], [], lookL [], lookF fkTab, lookM mtTab, lookL [], lookH [], lookH [], lookH []⟩
noncomputable def dCmpCompareInt (x y : MV) : Option MV :=
 gI .i64 x fun x1 =>
 gI .i64 y fun y1 =>
 bd (dCmpIsNaNInt (.i .i64 x1)) fun rA =>
 gB rA fun x2 =>
 bd (dCmpIsNaNInt (.i .i64 y1)) fun rA1 =>
 gB rA1 fun x3 =>
 ifB x2 (
 ifB x3 (
 some (.i .i64 0)) (
 some (.i .i64 (-1)))) (
 ifB x3 (
 some (.i .i64 1)) (
 ifB (decide (x1 < y1)) (
 some (.i .i64 (-1))) (
 ifB (decide (y1 < x1)) (
 some (.i .i64 1)) (
 some (.i .i64 0)))))
theorem linkCmpCompareInt (x y : MV) : bodyK cxCmpCompareInt [] none Try.f116 [x, y] = dCmpCompareInt x y := by kernel_rfl
noncomputable def gCmpCompareInt : Nat → List MV → Option MV := addG 116 (lst2 dCmpCompareInt) gCmpIsNaNInt
theorem soundCmpCompareInt : SoundG Try.prog cx gCmpCompareInt :=
  soundCmpIsNaNInt.fn (c' := cxCmpCompareInt) (caps := []) ⟨rfl, rfl, rfl, rfl, rfl, rfl, rfl, rfl⟩ rfl tab_ok eq_ok fk_ok mt_ok mix_ok Try.func116 (by kernel_rfl) (fun _ => rfl) (lst2_of linkCmpCompareInt)

noncomputable def cxTallyAddF1 : Ctx := ⟨lookT tiTab, kk, gCmpCompareInt, gv, frs, lookN ftyOf, lookG sigTab, [], 9, [], [], lookL [], lookF fkTab, lookM mtTab, lookL [], lookH [], lookH [], lookH []⟩
noncomputable def dTallyAddF1 (x byA : MV) : Option MV :=
 gA x fun cs =>
 gC cs fun m msA =>
 gI .i64 m fun By =>
 gC msA fun m1 msA1 =>
 gI .i64 m1 fun View =>
 gC msA1 fun m2 msA2 =>
 gS m2 fun Value =>
 gN msA2 <|
 gI .i64 byA fun byA1 =>
 bd (dCmpCompareInt (.i .i64 By) (.i .i64 byA1)) fun rA =>
 gI .i64 rA fun x1 =>
 some (.i .i64 x1)
theorem linkTallyAddF1 (x byA : MV) : bodyK cxTallyAddF1 [] none Try.f115 [x, byA] = dTallyAddF1 x byA := by kernel_rfl
noncomputable def gTallyAddF1 : Nat → List MV → Option MV := addG 115 (lst2 dTallyAddF1) gCmpCompareInt
theorem soundTallyAddF1 : SoundG Try.prog cx gTallyAddF1 :=
  soundCmpCompareInt.fn (c' := cxTallyAddF1) (caps := []) ⟨rfl, rfl, rfl, rfl, rfl, rfl, rfl, rfl⟩ rfl tab_ok eq_ok fk_ok mt_ok mix_ok Try.func115 (by kernel_rfl) (fun _ => rfl) (lst2_of linkTallyAddF1)
noncomputable def preSlicesBinarySearchFuncApiAcceptInt : Nat → List MV → Option MV := gTallyAddF1
theorem atSlicesBinarySearchFuncApiAcceptIntTallyAddF1 (x0 x1 : MV) : preSlicesBinarySearchFuncApiAcceptInt 115 [x0, x1] = dTallyAddF1 x0 x1 := by kernel_rfl

noncomputable def cxSlicesBinarySearchFuncApiAcceptInt : Ctx := ⟨lookT tiTab, kk, gTallyAddF1, gv, frs, lookN ftyOf, lookG sigTab, [], 49, [], [], lookL [], lookF fkTab, lookM mtTab, lookL [], lookH [(8, ⟨[0, 1, 2, 8, 9], [], [], [(0, [(6, .sc (.k (.i .i64))), (7, .sc (.k .b))])], []⟩)], lookH [(6, ⟨[0, 1, 2, 8, 11], [], [], [(0, [(9, .sc (.k (.i .i64))), (10, .sc (.k (.i .i64)))])], []⟩)], lookH [(3, ⟨[0, 1, 2, 8], [], [(9, .sc (.k (.i .i64))), (10, .sc (.k (.i .i64)))], [(2, [(9, .sc (.k (.i .i64)))])], []⟩)]⟩
noncomputable def dSlicesBinarySearchFuncApiAcceptInt (x target cmp : MV) : Option MV :=
 gL x fun x1 =>
 gI .i64 target fun target1 =>
 gR cmp fun cmp1 =>
 lenN x1 fun len =>
 bd (Loop (fun msA =>
 gC msA fun m msA1 =>
 gI .i64 m fun i =>
 gC msA1 fun m1 msA2 =>
 gI .i64 m1 fun j =>
 gN msA2 <|
 ifB (decide (i < j)) (
 chk (decide ((0 : Int) ≤ 1)) <|
 idx x1 (IntKind.wrap .i64 (Int.fdiv (IntKind.wrap .u64 (IntKind.wrap .i64 (i + j))) (2 ^ min (Int.toNat 1) (IntKind.bits .u64)))) fun y =>
 gA y fun cs =>
 gC cs fun m2 msA3 =>
 gI .i64 m2 fun By =>
 gC msA3 fun m3 msA4 =>
 gI .i64 m3 fun View =>
 gC msA4 fun m4 msA5 =>
 gS m4 fun Value =>
 gN msA5 <|
 gFn cmp1 fun fn cap =>
 chk (!gv fn) <|
 bd (preSlicesBinarySearchFuncApiAcceptInt fn ([.agg [.i .i64 By, .i .i64 View, .s Value], .i .i64 target1] ++ cap)) fun rA =>
 gI .i64 rA fun x2 =>
 bd (
 ifB (decide (x2 < 0)) (
 some (0, [.i .i64 (IntKind.wrap .i64 ((IntKind.wrap .i64 (Int.fdiv (IntKind.wrap .u64 (IntKind.wrap .i64 (i + j))) (2 ^ min (Int.toNat 1) (IntKind.bits .u64)))) + 1)), .i .i64 j])) (
 some (0, [.i .i64 i, .i .i64 (IntKind.wrap .i64 (Int.fdiv (IntKind.wrap .u64 (IntKind.wrap .i64 (i + j))) (2 ^ min (Int.toNat 1) (IntKind.bits .u64))))]))) fun p1 =>
 chk (Nat.beq p1.1 0) <|
 gC p1.2 fun m5 msA6 =>
 gI .i64 m5 fun i1 =>
 gC msA6 fun m6 msA7 =>
 gI .i64 m6 fun j1 =>
 gN msA7 <|
 some (.inl [.i .i64 i1, .i .i64 j1])) (
 some (.inr (2, [.i .i64 i])))) [.i .i64 0, .i .i64 (len : Int)]) fun p =>
 chk (Nat.beq p.1 2) <|
 gC p.2 fun m7 msA8 =>
 gI .i64 m7 fun i2 =>
 gN msA8 <|
 bd (
 ifB (decide (i2 < (len : Int))) (
 idx x1 i2 fun y1 =>
 gA y1 fun cs1 =>
 gC cs1 fun m8 msA9 =>
 gI .i64 m8 fun By1 =>
 gC msA9 fun m9 msA10 =>
 gI .i64 m9 fun View1 =>
 gC msA10 fun m10 msA11 =>
 gS m10 fun Value1 =>
 gN msA11 <|
 gFn cmp1 fun fn1 cap1 =>
 chk (!gv fn1) <|
 bd (preSlicesBinarySearchFuncApiAcceptInt fn1 ([.agg [.i .i64 By1, .i .i64 View1, .s Value1], .i .i64 target1] ++ cap1)) fun rA1 =>
 gI .i64 rA1 fun x3 =>
 some [.i .i64 i2, .b (decide (x3 = 0))]) (
 some [.i .i64 i2, .b false])) fun vs =>
 gC vs fun m11 msA12 =>
 gI .i64 m11 fun x4 =>
 gC msA12 fun m12 msA13 =>
 gB m12 fun x5 =>
 gN msA13 <|
 some (.tup [.i .i64 x4, .b x5])
theorem linkSlicesBinarySearchFuncApiAcceptInt (x target cmp : MV) : bodyK cxSlicesBinarySearchFuncApiAcceptInt [] none Try.f114 [x, target, cmp] = dSlicesBinarySearchFuncApiAcceptInt x target cmp := by kernel_rfl
noncomputable def gSlicesBinarySearchFuncApiAcceptInt : Nat → List MV → Option MV := addG 114 (lst3 dSlicesBinarySearchFuncApiAcceptInt) gTallyAddF1
theorem soundSlicesBinarySearchFuncApiAcceptInt : SoundG Try.prog cx gSlicesBinarySearchFuncApiAcceptInt :=
  soundTallyAddF1.fn (c' := cxSlicesBinarySearchFuncApiAcceptInt) (caps := []) ⟨rfl, rfl, rfl, rfl, rfl, rfl, rfl, rfl⟩ rfl tab_ok eq_ok fk_ok mt_ok mix_ok Try.func114 (by kernel_rfl) (fun _ => rfl) (lst3_of linkSlicesBinarySearchFuncApiAcceptInt)

noncomputable def cxTallyAdd : Ctx := ⟨lookT tiTab, kk, gSlicesBinarySearchFuncApiAcceptInt, gv, frs, lookN ftyOf, lookG sigTab, [], 49, [], [], lookL [], lookF fkTab, lookM mtTab, lookL [(4, [0, 1, 2, 3, 4, 5, 6, 7, 8, 9, 10, 11])], lookH [(4, ⟨[2, 3, 4, 6, 7], [], [], [(0, [(32, .sc (.k .b))])], [45, 46]⟩)], lookH [(8, ⟨[3, 4, 6], [], [], [(0, [(8, .sc (.own 36 72 false))])], [45, 46]⟩)], lookH []⟩
noncomputable def dTallyAdd (t a : MV) : Option MV :=
 gA t fun cs =>
 gC cs fun m msA =>
 gL m fun L =>
 gN msA <|
 gA a fun cs1 =>
 gC cs1 fun m1 msA1 =>
 gI .i64 m1 fun By =>
 gC msA1 fun m2 msA2 =>
 gI .i64 m2 fun View =>
 gC msA2 fun m3 msA3 =>
 gS m3 fun Value =>
 gN msA3 <|
 bd (dTallyMay (.agg [.i .i64 By, .i .i64 View, .s Value])) fun rA =>
 gB rA fun x =>
 ifB (!x) (
 some (.tup [.agg [.list L], .b false])) (
 bd (dSlicesBinarySearchFuncApiAcceptInt (.list L) (.i .i64 By) (.func 115 [])) fun rA1 =>
 gT rA1 fun vs =>
 gC vs fun m4 msA4 =>
 gI .i64 m4 fun x1 =>
 gC msA4 fun m5 msA5 =>
 gB m5 fun x2 =>
 gN msA5 <|
 bd (
 ifB x2 (
 idx L x1 fun y =>
 gA y fun cs2 =>
 gC cs2 fun m6 msA6 =>
 gI .i64 m6 fun By1 =>
 gC msA6 fun m7 msA7 =>
 gI .i64 m7 fun View1 =>
 gC msA7 fun m8 msA8 =>
 gS m8 fun Value1 =>
 gN msA8 <|
 some [.b (decide (View ≤ View1))]) (
 some [.b false])) fun vs1 =>
 gC vs1 fun m9 msA9 =>
 gB m9 fun x3 =>
 gN msA9 <|
 ifB x3 (
 some (.tup [.agg [.list L], .b false])) (
 bd (cloneF 3 32 [.list L]) fun rA2 =>
 gF rA2 fun xs =>
 bd (
 ifB x2 (
 idx xs x1 fun y1 =>
 gA y1 fun cs3 =>
 gC cs3 fun m10 msA10 =>
 gI .i64 m10 fun By2 =>
 gC msA10 fun m11 msA11 =>
 gI .i64 m11 fun View2 =>
 gC msA11 fun m12 msA12 =>
 gS m12 fun Value2 =>
 gN msA12 <|
 some (0, [.list (xs.set (Int.toNat x1) (.agg [.i .i64 By, .i .i64 View, .s Value]))])) (
 bd (insertF 32 [.fresh xs, .i .i64 x1, .fresh ([.agg [.i .i64 By, .i .i64 View, .s Value]] : List MV)]) fun rA3 =>
 gF rA3 fun xs1 =>
 some (0, [.list xs1]))) fun p =>
 chk (Nat.beq p.1 0) <|
 gC p.2 fun m13 msA13 =>
 gL m13 fun lA =>
 gN msA13 <|
 some (.tup [.agg [.list lA], .b true])))
theorem linkTallyAdd (t a : MV) : bodyK cxTallyAdd [] none Try.f94 [t, a] = dTallyAdd t a := by kernel_rfl
noncomputable def gTallyAdd : Nat → List MV → Option MV := addG 94 (lst2 dTallyAdd) gSlicesBinarySearchFuncApiAcceptInt
theorem soundTallyAdd : SoundG Try.prog cx gTallyAdd :=
  soundSlicesBinarySearchFuncApiAcceptInt.fn (c' := cxTallyAdd) (caps := []) ⟨rfl, rfl, rfl, rfl, rfl, rfl, rfl, rfl⟩ rfl tab_ok eq_ok fk_ok mt_ok mix_ok Try.func94 (by kernel_rfl) (fun _ => rfl) (lst2_of linkTallyAdd)

noncomputable def cxTallyBest : Ctx := ⟨lookT tiTab, kk, gTallyAdd, gv, frs, lookN ftyOf, lookG sigTab, [], 71, [], [], lookL [], lookF fkTab, lookM mtTab, lookL [(5, [0, 1, 2, 3, 4, 5, 6, 7, 8, 9, 10]), (17, [0, 1, 2, 3, 4, 5, 6])], lookH [(12, ⟨[1, 7, 10, 11, 14, 36, 37, 38], [], [], [(0, [(62, .sc (.k .b))])], []⟩)], lookH [(13, ⟨[1, 7, 14, 36, 37, 38], [], [], [(0, [(10, .box [.k (.i .i64), .k .s]), (11, .sc (.k .b))])], []⟩)], lookH [(9, ⟨[1, 7, 36, 37], [], [(10, .box [.k (.i .i64), .k .s]), (11, .sc (.k .b)), (38, .sc (.k (.i .i64)))], [(4, [(10, .box [.k (.i .i64), .k .s]), (11, .sc (.k .b))])], []⟩), (3, ⟨[1, 2, 17, 18], [], [(7, .mp ⟨true, [.i .i64, .s], false⟩), (19, .sc (.k (.i .i64)))], [(2, [(7, .mp ⟨true, [.i .i64, .s], false⟩)])], []⟩)]⟩
noncomputable def dTallyBest (a a1 : MV) : Option MV :=
 gA a fun cs =>
 gC cs fun m msA =>
 gL m fun L =>
 gN msA <|
 gI .i64 a1 fun a1N1 =>
 lenN L fun len =>
 bd (Loop (fun msA1 =>
 gC msA1 fun m1 msA2 =>
 gL m1 fun es =>
 gC msA2 fun m2 msA3 =>
 gI .i64 m2 fun x =>
 gN msA3 <|
 ifB (decide (x < (len : Int))) (
 idx L x fun y =>
 gA y fun cs1 =>
 gC cs1 fun m3 msA4 =>
 gI .i64 m3 fun By =>
 gC msA4 fun m4 msA5 =>
 gI .i64 m4 fun View =>
 gC msA5 fun m5 msA6 =>
 gS m5 fun Value =>
 gN msA6 <|
 chk (decide ((0 : Int) ≤ (midx es ([.i .i64 View, .s Value] : List MV) : Int) ∧ Int.toNat (midx es ([.i .i64 View, .s Value] : List MV) : Int) < (ment es ([.i .i64 View, .s Value] : List MV) (.i .i64 0)).length)) <|
 some (.inl [.list (mset (ment es ([.i .i64 View, .s Value] : List MV) (.i .i64 0)) (Int.toNat (midx es ([.i .i64 View, .s Value] : List MV) : Int)) (.i .i64 (IntKind.wrap .i64 ((mgetI es ([.i .i64 View, .s Value] : List MV)) + 1)))), .i .i64 (IntKind.wrap .i64 (x + 1))])) (
 some (.inr (2, [.list es])))) [.list ([] : List MV), .i .i64 0]) fun p =>
 chk (Nat.beq p.1 2) <|
 gC p.2 fun m6 msA7 =>
 gL m6 fun es1 =>
 gN msA7 <|
 lenN L fun len1 =>
 bd (Loop (fun msA8 =>
 gC msA8 fun m7 msA9 =>
 gI .i64 m7 fun x1 =>
 gC msA9 fun m8 msA10 =>
 gS m8 fun x2 =>
 gC msA10 fun m9 msA11 =>
 gB m9 fun x3 =>
 gC msA11 fun m10 msA12 =>
 gI .i64 m10 fun x4 =>
 gN msA12 <|
 ifB (decide (x4 < (len1 : Int))) (
 idx L x4 fun y1 =>
 gA y1 fun cs2 =>
 gC cs2 fun m11 msA13 =>
 gI .i64 m11 fun By1 =>
 gC msA13 fun m12 msA14 =>
 gI .i64 m12 fun View1 =>
 gC msA14 fun m13 msA15 =>
 gS m13 fun Value1 =>
 gN msA15 <|
 bd (
 ifB (decide ((1 : Int) ≤ a1N1)) (
 ifB (decide (a1N1 ≤ (mgetI es1 ([.i .i64 View1, .s Value1] : List MV)))) (
 some [.b (decide (x1 < View1))]) (
 some [.b false])) (
 some [.b false])) fun vs =>
 gC vs fun m14 msA16 =>
 gB m14 fun x5 =>
 gN msA16 <|
 bd (
 ifB x5 (
 some (0, [.i .i64 View1, .s Value1, .b true])) (
 some (0, [.i .i64 x1, .s x2, .b x3]))) fun p2 =>
 chk (Nat.beq p2.1 0) <|
 gC p2.2 fun m15 msA17 =>
 gI .i64 m15 fun x6 =>
 gC msA17 fun m16 msA18 =>
 gS m16 fun x7 =>
 gC msA18 fun m17 msA19 =>
 gB m17 fun x8 =>
 gN msA19 <|
 some (.inl [.i .i64 x6, .s x7, .b x8, .i .i64 (IntKind.wrap .i64 (x4 + 1))])) (
 some (.inr (4, [.i .i64 x1, .s x2, .b x3])))) [.i .i64 (-1), .s ([] : List UInt8), .b false, .i .i64 0]) fun p1 =>
 chk (Nat.beq p1.1 4) <|
 gC p1.2 fun m18 msA20 =>
 gI .i64 m18 fun x9 =>
 gC msA20 fun m19 msA21 =>
 gS m19 fun x10 =>
 gC msA21 fun m20 msA22 =>
 gB m20 fun x11 =>
 gN msA22 <|
 ifB (!x11) (
 some (.tup [.i .i64 0, .s ([] : List UInt8), .b false])) (
 some (.tup [.i .i64 x9, .s x10, .b true]))
theorem linkTallyBest (a a1 : MV) : bodyK cxTallyBest [] none Try.f108 [a, a1] = dTallyBest a a1 := by kernel_rfl
noncomputable def gTallyBest : Nat → List MV → Option MV := addG 108 (lst2 dTallyBest) gTallyAdd
theorem soundTallyBest : SoundG Try.prog cx gTallyBest :=
  soundTallyAdd.fn (c' := cxTallyBest) (caps := []) ⟨rfl, rfl, rfl, rfl, rfl, rfl, rfl, rfl⟩ rfl tab_ok eq_ok fk_ok mt_ok mix_ok Try.func108 (by kernel_rfl) (fun _ => rfl) (lst2_of linkTallyBest)

noncomputable def cxLearnerLearnerHears2 : Ctx := ⟨lookT tiTab, kk, gTallyBest, gv, frs, lookN ftyOf, lookG sigTab, [(1, 1002001)], 54, [], [], lookL [], lookF fkTab, lookM mtTab, lookL [(1, [0, 1, 2, 3, 4, 5, 6, 7, 8, 9, 10, 11, 12, 13, 14, 15, 16, 17, 18, 19]), (3, [0, 1, 2, 3, 4, 5, 6, 7, 8, 9, 10])], lookH [(1, ⟨[1, 3, 4, 6, 1002001], [], [], [(0, [(32, .sc (.k .b))])], []⟩)], lookH [], lookH []⟩
noncomputable def dLearnerLearnerHears2 (lA : MV) (t : List MV) (a : MV) (need : MV) : Option MV :=
 gA lA fun cs =>
 gC cs fun m msA =>
 gI .i64 m fun SF =>
 gC msA fun m1 msA1 =>
 gI .i64 m1 fun ST =>
 gC msA1 fun m2 msA2 =>
 gL m2 fun AcceptsL =>
 gC msA2 fun m3 msA3 =>
 gL m3 fun CommitsL =>
 gC msA3 fun m4 msA4 =>
 gL m4 fun ToldL =>
 gC msA4 fun m5 msA5 =>
 gB m5 fun Done =>
 gC msA5 fun m6 msA6 =>
 gS m6 fun Value =>
 gN msA6 <|
 gA a fun cs1 =>
 gC cs1 fun m7 msA7 =>
 gI .i64 m7 fun By =>
 gC msA7 fun m8 msA8 =>
 gI .i64 m8 fun View =>
 gC msA8 fun m9 msA9 =>
 gS m9 fun Value1 =>
 gN msA9 <|
 gI .i64 need fun need1 =>
 gC t fun m10 msA10 =>
 gI .i64 m10 fun SF1 =>
 gC msA10 fun m11 msA11 =>
 gI .i64 m11 fun ST1 =>
 gC msA11 fun m12 msA12 =>
 gL m12 fun AcceptsL1 =>
 gC msA12 fun m13 msA13 =>
 gL m13 fun CommitsL1 =>
 gC msA13 fun m14 msA14 =>
 gL m14 fun ToldL1 =>
 gC msA14 fun m15 msA15 =>
 gB m15 fun Done1 =>
 gC msA15 fun m16 msA16 =>
 gS m16 fun Value2 =>
 gN msA16 <|
 bd (
 ifB Done (
 some [.b true]) (
 ifB (decide (By < 0)) (
 some [.b true]) (
 bd (dSizeN (.agg [.i .i64 SF, .i .i64 ST])) fun rA =>
 gI .i64 rA fun x =>
 ifB (decide (x ≤ By)) (
 some [.b true]) (
 bd (dTallyMay (.agg [.i .i64 By, .i .i64 View, .s Value1])) fun rA1 =>
 gB rA1 fun x1 =>
 some [.b (!x1)])))) fun vs =>
 gC vs fun m17 msA17 =>
 gB m17 fun x2 =>
 gN msA17 <|
 ifB x2 (
 some (.wback (.tup [.b false, .s ([] : List UInt8)]) [.i .i64 SF1, .i .i64 ST1, .list AcceptsL1, .list CommitsL1, .list ToldL1, .b Done1, .s Value2])) (
 bd (dTallyAdd (.agg [.list AcceptsL1]) (.agg [.i .i64 By, .i .i64 View, .s Value1])) fun rA2 =>
 gT rA2 fun vs1 =>
 gC vs1 fun m18 msA18 =>
 gA m18 fun cs2 =>
 gC cs2 fun m19 msA19 =>
 gL m19 fun L =>
 gN msA19 <|
 gC msA18 fun m20 msA20 =>
 gB m20 fun x3 =>
 gN msA20 <|
 bd (dTallyBest (.agg [.list L]) (.i .i64 need1)) fun rA3 =>
 gT rA3 fun vs2 =>
 gC vs2 fun m21 msA21 =>
 gI .i64 m21 fun x4 =>
 gC msA21 fun m22 msA22 =>
 gS m22 fun x5 =>
 gC msA22 fun m23 msA23 =>
 gB m23 fun x6 =>
 gN msA23 <|
 some (.wback (.tup [.b x6, .s x5]) [.i .i64 SF1, .i .i64 ST1, .list L, .list CommitsL1, .list ToldL1, .b Done1, .s Value2]))
theorem linkLearnerLearnerHears2 (lA : MV) (t : List MV) (a : MV) (need : MV) : bodyC cxLearnerLearnerHears2 [] 1 sigK83 Try.f83 [lA, .cell (.func 2 t), a, need] = dLearnerLearnerHears2 lA t a need := by kernel_rfl

noncomputable def cxLearnerLearnerHears3 : Ctx := ⟨lookT tiTab, kk, gTallyBest, gv, frs, lookN ftyOf, lookG sigTab, [(1, 1003001)], 54, [], [], lookL [], lookF fkTab, lookM mtTab, lookL [(1, [0, 1, 2, 3, 4, 5, 6, 7, 8, 9, 10, 11, 12, 13, 14, 15, 16, 17, 18, 19]), (3, [0, 1, 2, 3, 4, 5, 6, 7, 8, 9, 10])], lookH [(1, ⟨[1, 3, 4, 6, 1003001], [], [], [(0, [(32, .sc (.k .b))])], []⟩)], lookH [], lookH []⟩
noncomputable def dLearnerLearnerHears3 (lA : MV) (t : List MV) (a : MV) (need : MV) : Option MV :=
 gA lA fun cs =>
 gC cs fun m msA =>
 gI .i64 m fun SF =>
 gC msA fun m1 msA1 =>
 gI .i64 m1 fun ST =>
 gC msA1 fun m2 msA2 =>
 gL m2 fun AcceptsL =>
 gC msA2 fun m3 msA3 =>
 gL m3 fun CommitsL =>
 gC msA3 fun m4 msA4 =>
 gL m4 fun ToldL =>
 gC msA4 fun m5 msA5 =>
 gB m5 fun Done =>
 gC msA5 fun m6 msA6 =>
 gS m6 fun Value =>
 gN msA6 <|
 gA a fun cs1 =>
 gC cs1 fun m7 msA7 =>
 gI .i64 m7 fun By =>
 gC msA7 fun m8 msA8 =>
 gI .i64 m8 fun View =>
 gC msA8 fun m9 msA9 =>
 gS m9 fun Value1 =>
 gN msA9 <|
 gI .i64 need fun need1 =>
 gC t fun m10 msA10 =>
 gI .i64 m10 fun SF1 =>
 gC msA10 fun m11 msA11 =>
 gI .i64 m11 fun ST1 =>
 gC msA11 fun m12 msA12 =>
 gL m12 fun AcceptsL1 =>
 gC msA12 fun m13 msA13 =>
 gL m13 fun CommitsL1 =>
 gC msA13 fun m14 msA14 =>
 gL m14 fun ToldL1 =>
 gC msA14 fun m15 msA15 =>
 gB m15 fun Done1 =>
 gC msA15 fun m16 msA16 =>
 gS m16 fun Value2 =>
 gN msA16 <|
 bd (
 ifB Done (
 some [.b true]) (
 ifB (decide (By < 0)) (
 some [.b true]) (
 bd (dSizeN (.agg [.i .i64 SF, .i .i64 ST])) fun rA =>
 gI .i64 rA fun x =>
 ifB (decide (x ≤ By)) (
 some [.b true]) (
 bd (dTallyMay (.agg [.i .i64 By, .i .i64 View, .s Value1])) fun rA1 =>
 gB rA1 fun x1 =>
 some [.b (!x1)])))) fun vs =>
 gC vs fun m17 msA17 =>
 gB m17 fun x2 =>
 gN msA17 <|
 ifB x2 (
 some (.wback (.tup [.b false, .s ([] : List UInt8)]) [.i .i64 SF1, .i .i64 ST1, .list AcceptsL1, .list CommitsL1, .list ToldL1, .b Done1, .s Value2])) (
 bd (dTallyAdd (.agg [.list CommitsL1]) (.agg [.i .i64 By, .i .i64 View, .s Value1])) fun rA2 =>
 gT rA2 fun vs1 =>
 gC vs1 fun m18 msA18 =>
 gA m18 fun cs2 =>
 gC cs2 fun m19 msA19 =>
 gL m19 fun L =>
 gN msA19 <|
 gC msA18 fun m20 msA20 =>
 gB m20 fun x3 =>
 gN msA20 <|
 bd (dTallyBest (.agg [.list L]) (.i .i64 need1)) fun rA3 =>
 gT rA3 fun vs2 =>
 gC vs2 fun m21 msA21 =>
 gI .i64 m21 fun x4 =>
 gC msA21 fun m22 msA22 =>
 gS m22 fun x5 =>
 gC msA22 fun m23 msA23 =>
 gB m23 fun x6 =>
 gN msA23 <|
 some (.wback (.tup [.b x6, .s x5]) [.i .i64 SF1, .i .i64 ST1, .list AcceptsL1, .list L, .list ToldL1, .b Done1, .s Value2]))
theorem linkLearnerLearnerHears3 (lA : MV) (t : List MV) (a : MV) (need : MV) : bodyC cxLearnerLearnerHears3 [] 1 sigK83 Try.f83 [lA, .cell (.func 3 t), a, need] = dLearnerLearnerHears3 lA t a need := by kernel_rfl

noncomputable def cxLearnerLearnerHears4 : Ctx := ⟨lookT tiTab, kk, gTallyBest, gv, frs, lookN ftyOf, lookG sigTab, [(1, 1004001)], 54, [], [], lookL [], lookF fkTab, lookM mtTab, lookL [(1, [0, 1, 2, 3, 4, 5, 6, 7, 8, 9, 10, 11, 12, 13, 14, 15, 16, 17, 18, 19]), (3, [0, 1, 2, 3, 4, 5, 6, 7, 8, 9, 10])], lookH [(1, ⟨[1, 3, 4, 6, 1004001], [], [], [(0, [(32, .sc (.k .b))])], []⟩)], lookH [], lookH []⟩
noncomputable def dLearnerLearnerHears4 (lA : MV) (t : List MV) (a : MV) (need : MV) : Option MV :=
 gA lA fun cs =>
 gC cs fun m msA =>
 gI .i64 m fun SF =>
 gC msA fun m1 msA1 =>
 gI .i64 m1 fun ST =>
 gC msA1 fun m2 msA2 =>
 gL m2 fun AcceptsL =>
 gC msA2 fun m3 msA3 =>
 gL m3 fun CommitsL =>
 gC msA3 fun m4 msA4 =>
 gL m4 fun ToldL =>
 gC msA4 fun m5 msA5 =>
 gB m5 fun Done =>
 gC msA5 fun m6 msA6 =>
 gS m6 fun Value =>
 gN msA6 <|
 gA a fun cs1 =>
 gC cs1 fun m7 msA7 =>
 gI .i64 m7 fun By =>
 gC msA7 fun m8 msA8 =>
 gI .i64 m8 fun View =>
 gC msA8 fun m9 msA9 =>
 gS m9 fun Value1 =>
 gN msA9 <|
 gI .i64 need fun need1 =>
 gC t fun m10 msA10 =>
 gI .i64 m10 fun SF1 =>
 gC msA10 fun m11 msA11 =>
 gI .i64 m11 fun ST1 =>
 gC msA11 fun m12 msA12 =>
 gL m12 fun AcceptsL1 =>
 gC msA12 fun m13 msA13 =>
 gL m13 fun CommitsL1 =>
 gC msA13 fun m14 msA14 =>
 gL m14 fun ToldL1 =>
 gC msA14 fun m15 msA15 =>
 gB m15 fun Done1 =>
 gC msA15 fun m16 msA16 =>
 gS m16 fun Value2 =>
 gN msA16 <|
 bd (
 ifB Done (
 some [.b true]) (
 ifB (decide (By < 0)) (
 some [.b true]) (
 bd (dSizeN (.agg [.i .i64 SF, .i .i64 ST])) fun rA =>
 gI .i64 rA fun x =>
 ifB (decide (x ≤ By)) (
 some [.b true]) (
 bd (dTallyMay (.agg [.i .i64 By, .i .i64 View, .s Value1])) fun rA1 =>
 gB rA1 fun x1 =>
 some [.b (!x1)])))) fun vs =>
 gC vs fun m17 msA17 =>
 gB m17 fun x2 =>
 gN msA17 <|
 ifB x2 (
 some (.wback (.tup [.b false, .s ([] : List UInt8)]) [.i .i64 SF1, .i .i64 ST1, .list AcceptsL1, .list CommitsL1, .list ToldL1, .b Done1, .s Value2])) (
 bd (dTallyAdd (.agg [.list ToldL1]) (.agg [.i .i64 By, .i .i64 View, .s Value1])) fun rA2 =>
 gT rA2 fun vs1 =>
 gC vs1 fun m18 msA18 =>
 gA m18 fun cs2 =>
 gC cs2 fun m19 msA19 =>
 gL m19 fun L =>
 gN msA19 <|
 gC msA18 fun m20 msA20 =>
 gB m20 fun x3 =>
 gN msA20 <|
 bd (dTallyBest (.agg [.list L]) (.i .i64 need1)) fun rA3 =>
 gT rA3 fun vs2 =>
 gC vs2 fun m21 msA21 =>
 gI .i64 m21 fun x4 =>
 gC msA21 fun m22 msA22 =>
 gS m22 fun x5 =>
 gC msA22 fun m23 msA23 =>
 gB m23 fun x6 =>
 gN msA23 <|
 some (.wback (.tup [.b x6, .s x5]) [.i .i64 SF1, .i .i64 ST1, .list AcceptsL1, .list CommitsL1, .list L, .b Done1, .s Value2]))
theorem linkLearnerLearnerHears4 (lA : MV) (t : List MV) (a : MV) (need : MV) : bodyC cxLearnerLearnerHears4 [] 1 sigK83 Try.f83 [lA, .cell (.func 4 t), a, need] = dLearnerLearnerHears4 lA t a need := by kernel_rfl
noncomputable abbrev FLearnerLearnerHears : List MV → Option MV := fun ms => match ms with | [a0, .cell (.func off a1), a2, a3] => (match Nat.beq off 2 with | true => dLearnerLearnerHears2 a0 a1 a2 a3 | false => (match Nat.beq off 3 with | true => dLearnerLearnerHears3 a0 a1 a2 a3 | false => (match Nat.beq off 4 with | true => dLearnerLearnerHears4 a0 a1 a2 a3 | false => none))) | _ => none
theorem FLearnerLearnerHears_of {ms : List MV} {r : MV} (h : FLearnerLearnerHears ms = some r) : ∃ c' : Ctx, Like cx c' ∧ c'.g = gTallyBest ∧ headC c' 83 Try.f83 [] = true ∧ bodyC c' [] 1 sigK83 Try.f83 ms = some r := by
  unfold FLearnerLearnerHears at h
  split at h
  · rename_i a0 off a1 a2 a3
    cases ho2 : Nat.beq off 2 with
    | true =>
      have := Nat.eq_of_beq_eq_true ho2
      subst this
      exact ⟨cxLearnerLearnerHears2, ⟨rfl, rfl, rfl, rfl, rfl, rfl, rfl, rfl⟩, rfl, by kernel_rfl, (linkLearnerLearnerHears2 _ _ _ _).trans h⟩
    | false =>
    rw [ho2] at h
    simp only at h
    cases ho3 : Nat.beq off 3 with
    | true =>
      have := Nat.eq_of_beq_eq_true ho3
      subst this
      exact ⟨cxLearnerLearnerHears3, ⟨rfl, rfl, rfl, rfl, rfl, rfl, rfl, rfl⟩, rfl, by kernel_rfl, (linkLearnerLearnerHears3 _ _ _ _).trans h⟩
    | false =>
    rw [ho3] at h
    simp only at h
    cases ho4 : Nat.beq off 4 with
    | true =>
      have := Nat.eq_of_beq_eq_true ho4
      subst this
      exact ⟨cxLearnerLearnerHears4, ⟨rfl, rfl, rfl, rfl, rfl, rfl, rfl, rfl⟩, rfl, by kernel_rfl, (linkLearnerLearnerHears4 _ _ _ _).trans h⟩
    | false =>
    rw [ho4] at h
    simp only at h
    cases h
  · cases h
noncomputable def gLearnerLearnerHears : Nat → List MV → Option MV := addG 83 FLearnerLearnerHears gTallyBest
theorem soundLearnerLearnerHears : SoundG Try.prog cx gLearnerLearnerHears :=
  soundTallyBest.fnC (pos := 1) (ks := sigK83) (caps := []) tab_ok eq_ok fk_ok mt_ok mix_ok Try.func83 (by kernel_rfl) (fun _ => rfl) FLearnerLearnerHears_of

noncomputable def cxLearnerTold : Ctx := ⟨lookT tiTab, kk, gLearnerLearnerHears, gv, frs, lookN ftyOf, lookG sigTab, [], 26, [], [], lookL [], lookF fkTab, lookM mtTab, lookL [(1, [0, 1, 2, 3, 4, 5, 6, 7, 8, 9, 10, 11, 12, 13])], lookH [], lookH [(3, ⟨[6, 8], [], [], [(0, [(3, .box [.k (.i .i64), .k (.i .i64), .k .l, .k .l, .k .l, .k .b, .k .s])])], []⟩)], lookH []⟩
noncomputable def dLearnerTold (lA byA value : MV) : Option MV :=
 gA lA fun cs =>
 gC cs fun m msA =>
 gI .i64 m fun SF =>
 gC msA fun m1 msA1 =>
 gI .i64 m1 fun ST =>
 gC msA1 fun m2 msA2 =>
 gL m2 fun AcceptsL =>
 gC msA2 fun m3 msA3 =>
 gL m3 fun CommitsL =>
 gC msA3 fun m4 msA4 =>
 gL m4 fun ToldL =>
 gC msA4 fun m5 msA5 =>
 gB m5 fun Done =>
 gC msA5 fun m6 msA6 =>
 gS m6 fun Value =>
 gN msA6 <|
 gI .i64 byA fun byA1 =>
 gS value fun value1 =>
 bd (dSizeWeak (.agg [.i .i64 SF, .i .i64 ST])) fun rA =>
 gI .i64 rA fun x =>
 bd (dLearnerLearnerHears4 (.agg [.i .i64 SF, .i .i64 ST, .list AcceptsL, .list CommitsL, .list ToldL, .b Done, .s Value]) [.i .i64 SF, .i .i64 ST, .list AcceptsL, .list CommitsL, .list ToldL, .b Done, .s Value] (.agg [.i .i64 byA1, .i .i64 0, .s value1]) (.i .i64 x)) fun rA1 =>
 gW rA1 fun x1 ls =>
 gC ls fun m7 msA7 =>
 gI .i64 m7 fun SF1 =>
 gC msA7 fun m8 msA8 =>
 gI .i64 m8 fun ST1 =>
 gC msA8 fun m9 msA9 =>
 gL m9 fun AcceptsL1 =>
 gC msA9 fun m10 msA10 =>
 gL m10 fun CommitsL1 =>
 gC msA10 fun m11 msA11 =>
 gL m11 fun ToldL1 =>
 gC msA11 fun m12 msA12 =>
 gB m12 fun Done1 =>
 gC msA12 fun m13 msA13 =>
 gS m13 fun Value1 =>
 gN msA13 <|
 gT x1 fun vs =>
 gC vs fun m14 msA14 =>
 gB m14 fun x2 =>
 gC msA14 fun m15 msA15 =>
 gS m15 fun x3 =>
 gN msA15 <|
 bd (
 ifB x2 (
 some (0, [.i .i64 SF1, .i .i64 ST1, .list AcceptsL1, .list CommitsL1, .list ToldL1, .b true, .s x3])) (
 some (0, [.i .i64 SF1, .i .i64 ST1, .list AcceptsL1, .list CommitsL1, .list ToldL1, .b Done1, .s Value1]))) fun p =>
 chk (Nat.beq p.1 0) <|
 gC p.2 fun m16 msA16 =>
 gI .i64 m16 fun lA1 =>
 gC msA16 fun m17 msA17 =>
 gI .i64 m17 fun lA2 =>
 gC msA17 fun m18 msA18 =>
 gL m18 fun lA3 =>
 gC msA18 fun m19 msA19 =>
 gL m19 fun lA4 =>
 gC msA19 fun m20 msA20 =>
 gL m20 fun lA5 =>
 gC msA20 fun m21 msA21 =>
 gB m21 fun lA6 =>
 gC msA21 fun m22 msA22 =>
 gS m22 fun lA7 =>
 gN msA22 <|
 some (.agg [.i .i64 lA1, .i .i64 lA2, .list lA3, .list lA4, .list lA5, .b lA6, .s lA7])
theorem linkLearnerTold (lA byA value : MV) : bodyK cxLearnerTold [] none Try.f43 [lA, byA, value] = dLearnerTold lA byA value := by kernel_rfl
noncomputable def gLearnerTold : Nat → List MV → Option MV := addG 43 (lst3 dLearnerTold) gLearnerLearnerHears
theorem soundLearnerTold : SoundG Try.prog cx gLearnerTold :=
  soundLearnerLearnerHears.fn (c' := cxLearnerTold) (caps := []) ⟨rfl, rfl, rfl, rfl, rfl, rfl, rfl, rfl⟩ rfl tab_ok eq_ok fk_ok mt_ok mix_ok Try.func43 (by kernel_rfl) (fun _ => rfl) (lst3_of linkLearnerTold)

noncomputable def cxL22Alive : Ctx := ⟨lookT tiTab, kk, gLearnerTold, gv, frs, lookN ftyOf, lookG sigTab, [], 36, [], [], lookL [], lookF fkTab, lookM mtTab, lookL [], lookH [(4, ⟨[1, 2, 3], [], [], [(0, [(0, .sc (.k .b))])], []⟩)], lookH [], lookH []⟩
noncomputable def dL22Alive : Option MV :=
 bd (dLearnerNew (.agg [.i .i64 1, .i .i64 0])) fun rA =>
 gT rA fun vs =>
 gC vs fun m msA =>
 gA m fun cs =>
 gC cs fun m1 msA1 =>
 gI .i64 m1 fun SF =>
 gC msA1 fun m2 msA2 =>
 gI .i64 m2 fun ST =>
 gC msA2 fun m3 msA3 =>
 gL m3 fun AcceptsL =>
 gC msA3 fun m4 msA4 =>
 gL m4 fun CommitsL =>
 gC msA4 fun m5 msA5 =>
 gL m5 fun ToldL =>
 gC msA5 fun m6 msA6 =>
 gB m6 fun Done =>
 gC msA6 fun m7 msA7 =>
 gS m7 fun Value =>
 gN msA7 <|
 gC msA fun m8 msA8 =>
 gI .i64 m8 fun x =>
 gN msA8 <|
 bd (dLearnerTold (.agg [.i .i64 SF, .i .i64 ST, .list AcceptsL, .list CommitsL, .list ToldL, .b Done, .s Value]) (.i .i64 0) (.s ([120] : List UInt8))) fun rA1 =>
 gA rA1 fun cs1 =>
 gC cs1 fun m9 msA9 =>
 gI .i64 m9 fun SF1 =>
 gC msA9 fun m10 msA10 =>
 gI .i64 m10 fun ST1 =>
 gC msA10 fun m11 msA11 =>
 gL m11 fun AcceptsL1 =>
 gC msA11 fun m12 msA12 =>
 gL m12 fun CommitsL1 =>
 gC msA12 fun m13 msA13 =>
 gL m13 fun ToldL1 =>
 gC msA13 fun m14 msA14 =>
 gB m14 fun Done1 =>
 gC msA14 fun m15 msA15 =>
 gS m15 fun Value1 =>
 gN msA15 <|
 bd (dLearnerTold (.agg [.i .i64 SF1, .i .i64 ST1, .list AcceptsL1, .list CommitsL1, .list ToldL1, .b Done1, .s Value1]) (.i .i64 3) (.s ([120] : List UInt8))) fun rA2 =>
 gA rA2 fun cs2 =>
 gC cs2 fun m16 msA16 =>
 gI .i64 m16 fun SF2 =>
 gC msA16 fun m17 msA17 =>
 gI .i64 m17 fun ST2 =>
 gC msA17 fun m18 msA18 =>
 gL m18 fun AcceptsL2 =>
 gC msA18 fun m19 msA19 =>
 gL m19 fun CommitsL2 =>
 gC msA19 fun m20 msA20 =>
 gL m20 fun ToldL2 =>
 gC msA20 fun m21 msA21 =>
 gB m21 fun Done2 =>
 gC msA21 fun m22 msA22 =>
 gS m22 fun Value2 =>
 gN msA22 <|
 bd (
 ifB (decide (x = 0)) (
 ifB (!Done1) (
 ifB Done2 (
 ifB (decide (Value2 = ([120] : List UInt8))) (
 lenN ToldL2 fun len =>
 some [.b (decide ((len : Int) = 2))]) (
 some [.b false])) (
 some [.b false])) (
 some [.b false])) (
 some [.b false])) fun vs1 =>
 gC vs1 fun m23 msA23 =>
 gB m23 fun x1 =>
 gN msA23 <|
 some (.b x1)
theorem linkL22Alive : bodyK cxL22Alive [] none Try.f25 [] = dL22Alive  := by kernel_rfl
noncomputable def gL22Alive : Nat → List MV → Option MV := addG 25 (lst0 dL22Alive) gLearnerTold
theorem soundL22Alive : SoundG Try.prog cx gL22Alive :=
  soundLearnerTold.fn (c' := cxL22Alive) (caps := []) ⟨rfl, rfl, rfl, rfl, rfl, rfl, rfl, rfl⟩ rfl tab_ok eq_ok fk_ok mt_ok mix_ok Try.func25 (by kernel_rfl) (fun _ => rfl) (lst0_of linkL22Alive)

noncomputable def cxL22Sized : Ctx := ⟨lookT tiTab, kk, gL22Alive, gv, frs, lookN ftyOf, lookG sigTab, [], 8, [], [], lookL [], lookF fkTab, lookM mtTab, lookL [], lookH [], lookH [], lookH []⟩
noncomputable def dL22Sized (sA : MV) : Option MV :=
 gA sA fun cs =>
 gC cs fun m msA =>
 gI .i64 m fun F =>
 gC msA fun m1 msA1 =>
 gI .i64 m1 fun T =>
 gN msA1 <|
 some (.agg [.i .i64 F, .i .i64 T])
theorem linkL22Sized (sA : MV) : bodyK cxL22Sized [] none Try.f28 [sA] = dL22Sized sA := by kernel_rfl
noncomputable def gL22Sized : Nat → List MV → Option MV := addG 28 (lst1 dL22Sized) gL22Alive
theorem soundL22Sized : SoundG Try.prog cx gL22Sized :=
  soundL22Alive.fn (c' := cxL22Sized) (caps := []) ⟨rfl, rfl, rfl, rfl, rfl, rfl, rfl, rfl⟩ rfl tab_ok eq_ok fk_ok mt_ok mix_ok Try.func28 (by kernel_rfl) (fun _ => rfl) (lst1_of linkL22Sized)

noncomputable def cxR22Below : Ctx := ⟨lookT tiTab, kk, gL22Sized, gv, frs, lookN ftyOf, lookG sigTab, [], 36, [], [], lookL [], lookF fkTab, lookM mtTab, lookL [(4, [0, 1, 2, 3, 4, 5, 6, 7, 8, 9, 10, 11, 12, 13, 14, 15, 16, 17, 18])], lookH [(4, ⟨[2, 3, 4, 7], [], [], [(0, [(33, .sc (.k .b))])], []⟩)], lookH [], lookH [(2, ⟨[2, 3, 4], [], [(7, .sc (.k (.i .i64)))], [(1, [(6, .sc (.k .b))]), (2, [])], []⟩)]⟩
noncomputable def dR22Below (sA t last : MV) : Option MV :=
 gA sA fun cs =>
 gC cs fun m msA =>
 gI .i64 m fun F =>
 gC msA fun m1 msA1 =>
 gI .i64 m1 fun T =>
 gN msA1 <|
 gA t fun cs1 =>
 gC cs1 fun m2 msA2 =>
 gL m2 fun L =>
 gN msA2 <|
 gI .i64 last fun last1 =>
 bd (Loop (fun msA3 =>
 gC msA3 fun m3 msA4 =>
 gI .i64 m3 fun i =>
 gN msA4 <|
 lenN L fun len =>
 ifB (decide (i < (len : Int))) (
 bd (
 idx L i fun y =>
 gA y fun cs2 =>
 gC cs2 fun m4 msA5 =>
 gI .i64 m4 fun By =>
 gC msA5 fun m5 msA6 =>
 gI .i64 m5 fun View =>
 gC msA6 fun m6 msA7 =>
 gS m6 fun Value =>
 gN msA7 <|
 bd (dR07N (.agg [.i .i64 F, .i .i64 T])) fun rA =>
 gI .i64 rA fun x =>
 ifB (decide (x ≤ By)) (
 some [.b true]) (
 idx L i fun y1 =>
 gA y1 fun cs3 =>
 gC cs3 fun m7 msA8 =>
 gI .i64 m7 fun By1 =>
 gC msA8 fun m8 msA9 =>
 gI .i64 m8 fun View1 =>
 gC msA9 fun m9 msA10 =>
 gS m9 fun Value1 =>
 gN msA10 <|
 some [.b (decide (last1 < View1))])) fun vs =>
 gC vs fun m10 msA11 =>
 gB m10 fun x1 =>
 gN msA11 <|
 ifB x1 (
 some (.inr (1, [.b false]))) (
 some (.inl [.i .i64 (IntKind.wrap .i64 (i + 1))]))) (
 some (.inr (2, [])))) [.i .i64 0]) fun p =>
 ifB (Nat.beq p.1 2) (
 gN p.2 <|
 bd (dR18Right (.agg [.list L])) fun rA1 =>
 gB rA1 fun x2 =>
 some (.b x2)) (
 chk (Nat.beq p.1 1) <|
 gC p.2 fun m11 msA12 =>
 gB m11 fun x3 =>
 gN msA12 <|
 some (.b x3))
theorem linkR22Below (sA t last : MV) : bodyK cxR22Below [] none Try.f70 [sA, t, last] = dR22Below sA t last := by kernel_rfl
noncomputable def gR22Below : Nat → List MV → Option MV := addG 70 (lst3 dR22Below) gL22Sized
theorem soundR22Below : SoundG Try.prog cx gR22Below :=
  soundL22Sized.fn (c' := cxR22Below) (caps := []) ⟨rfl, rfl, rfl, rfl, rfl, rfl, rfl, rfl⟩ rfl tab_ok eq_ok fk_ok mt_ok mix_ok Try.func70 (by kernel_rfl) (fun _ => rfl) (lst3_of linkR22Below)

noncomputable def cxR22Right : Ctx := ⟨lookT tiTab, kk, gR22Below, gv, frs, lookN ftyOf, lookG sigTab, [], 42, [], [], lookL [], lookF fkTab, lookM mtTab, lookL [], lookH [(3, ⟨[1], [], [], [(0, [(2, .sc (.k .b))])], []⟩), (1, ⟨[1], [], [], [(0, [(22, .sc (.k .b))])], []⟩)], lookH [], lookH []⟩
noncomputable def dR22Right (lA : MV) : Option MV :=
 gA lA fun cs =>
 gC cs fun m msA =>
 gI .i64 m fun SF =>
 gC msA fun m1 msA1 =>
 gI .i64 m1 fun ST =>
 gC msA1 fun m2 msA2 =>
 gL m2 fun AcceptsL =>
 gC msA2 fun m3 msA3 =>
 gL m3 fun CommitsL =>
 gC msA3 fun m4 msA4 =>
 gL m4 fun ToldL =>
 gC msA4 fun m5 msA5 =>
 gB m5 fun Done =>
 gC msA5 fun m6 msA6 =>
 gS m6 fun Value =>
 gN msA6 <|
 bd (
 bd (dR07Right (.agg [.i .i64 SF, .i .i64 ST])) fun rA =>
 gB rA fun x =>
 ifB (!x) (
 some [.b true]) (
 ifB (decide ((6000 : Int) < (Value.length : Int))) (
 some [.b true]) (
 ifB (!Done) (
 some [.b (!decide (Value = ([] : List UInt8)))]) (
 some [.b false])))) fun vs =>
 gC vs fun m7 msA7 =>
 gB m7 fun x1 =>
 gN msA7 <|
 ifB x1 (
 some (.b false)) (
 bd (
 bd (dR22Below (.agg [.i .i64 SF, .i .i64 ST]) (.agg [.list AcceptsL]) (.i .i64 100000)) fun rA1 =>
 gB rA1 fun x2 =>
 ifB x2 (
 bd (dR22Below (.agg [.i .i64 SF, .i .i64 ST]) (.agg [.list CommitsL]) (.i .i64 100000)) fun rA2 =>
 gB rA2 fun x3 =>
 ifB x3 (
 bd (dR22Below (.agg [.i .i64 SF, .i .i64 ST]) (.agg [.list ToldL]) (.i .i64 0)) fun rA3 =>
 gB rA3 fun x4 =>
 some [.b x4]) (
 some [.b false])) (
 some [.b false])) fun vs1 =>
 gC vs1 fun m8 msA8 =>
 gB m8 fun x5 =>
 gN msA8 <|
 some (.b x5))
theorem linkR22Right (lA : MV) : bodyK cxR22Right [] none Try.f30 [lA] = dR22Right lA := by kernel_rfl
noncomputable def gR22Right : Nat → List MV → Option MV := addG 30 (lst1 dR22Right) gR22Below
theorem soundR22Right : SoundG Try.prog cx gR22Right :=
  soundR22Below.fn (c' := cxR22Right) (caps := []) ⟨rfl, rfl, rfl, rfl, rfl, rfl, rfl, rfl⟩ rfl tab_ok eq_ok fk_ok mt_ok mix_ok Try.func30 (by kernel_rfl) (fun _ => rfl) (lst1_of linkR22Right)

noncomputable def cxL22Plain : Ctx := ⟨lookT tiTab, kk, gR22Right, gv, frs, lookN ftyOf, lookG sigTab, [], 23, [], [], lookL [], lookF fkTab, lookM mtTab, lookL [(1, [0, 1, 3, 4, 5, 6, 7, 8, 9, 10, 11, 12, 13, 14, 15, 16, 17, 18, 2, 19, 20])], lookH [], lookH [], lookH []⟩
noncomputable def dL22Plain (lA : MV) : Option MV :=
 gA lA fun cs =>
 gC cs fun m msA =>
 gI .i64 m fun SF =>
 gC msA fun m1 msA1 =>
 gI .i64 m1 fun ST =>
 gC msA1 fun m2 msA2 =>
 gL m2 fun AcceptsL =>
 gC msA2 fun m3 msA3 =>
 gL m3 fun CommitsL =>
 gC msA3 fun m4 msA4 =>
 gL m4 fun ToldL =>
 gC msA4 fun m5 msA5 =>
 gB m5 fun Done =>
 gC msA5 fun m6 msA6 =>
 gS m6 fun Value =>
 gN msA6 <|
 bd (dL22Sized (.agg [.i .i64 SF, .i .i64 ST])) fun rA =>
 gA rA fun cs1 =>
 gC cs1 fun m7 msA7 =>
 gI .i64 m7 fun F =>
 gC msA7 fun m8 msA8 =>
 gI .i64 m8 fun T =>
 gN msA8 <|
 some (.agg [.i .i64 F, .i .i64 T, .list AcceptsL, .list CommitsL, .list ToldL, .b Done, .s Value])
theorem linkL22Plain (lA : MV) : bodyK cxL22Plain [] none Try.f31 [lA] = dL22Plain lA := by kernel_rfl
noncomputable def gL22Plain : Nat → List MV → Option MV := addG 31 (lst1 dL22Plain) gR22Right
theorem soundL22Plain : SoundG Try.prog cx gL22Plain :=
  soundR22Right.fn (c' := cxL22Plain) (caps := []) ⟨rfl, rfl, rfl, rfl, rfl, rfl, rfl, rfl⟩ rfl tab_ok eq_ok fk_ok mt_ok mix_ok Try.func31 (by kernel_rfl) (fun _ => rfl) (lst1_of linkL22Plain)

noncomputable def cxR22Same : Ctx := ⟨lookT tiTab, kk, gL22Plain, gv, frs, lookN ftyOf, lookG sigTab, [], 53, [], [], lookL [], lookF fkTab, lookM mtTab, lookL [], lookH [(2, ⟨[2, 3, 5], [], [], [(0, [(4, .sc (.k .b))])], []⟩), (1, ⟨[2, 3], [], [], [(0, [(5, .sc (.k .b))])], []⟩)], lookH [], lookH []⟩
noncomputable def dR22Same (a b : MV) : Option MV :=
 gA a fun cs =>
 gC cs fun m msA =>
 gI .i64 m fun SF =>
 gC msA fun m1 msA1 =>
 gI .i64 m1 fun ST =>
 gC msA1 fun m2 msA2 =>
 gL m2 fun AcceptsL =>
 gC msA2 fun m3 msA3 =>
 gL m3 fun CommitsL =>
 gC msA3 fun m4 msA4 =>
 gL m4 fun ToldL =>
 gC msA4 fun m5 msA5 =>
 gB m5 fun Done =>
 gC msA5 fun m6 msA6 =>
 gS m6 fun Value =>
 gN msA6 <|
 gA b fun cs1 =>
 gC cs1 fun m7 msA7 =>
 gI .i64 m7 fun SF1 =>
 gC msA7 fun m8 msA8 =>
 gI .i64 m8 fun ST1 =>
 gC msA8 fun m9 msA9 =>
 gL m9 fun AcceptsL1 =>
 gC msA9 fun m10 msA10 =>
 gL m10 fun CommitsL1 =>
 gC msA10 fun m11 msA11 =>
 gL m11 fun ToldL1 =>
 gC msA11 fun m12 msA12 =>
 gB m12 fun Done1 =>
 gC msA12 fun m13 msA13 =>
 gS m13 fun Value1 =>
 gN msA13 <|
 bd (
 ifB ((decide (SF = SF1)) && (decide (ST = ST1))) (
 ifB (decide (Done = Done1)) (
 some [.b (decide (Value = Value1))]) (
 some [.b false])) (
 some [.b false])) fun vs =>
 gC vs fun m14 msA14 =>
 gB m14 fun flat =>
 gN msA14 <|
 bd (
 ifB flat (
 bd (dR18Same (.list AcceptsL) (.list AcceptsL1)) fun rA =>
 gB rA fun x =>
 ifB x (
 bd (dR18Same (.list CommitsL) (.list CommitsL1)) fun rA1 =>
 gB rA1 fun x1 =>
 ifB x1 (
 bd (dR18Same (.list ToldL) (.list ToldL1)) fun rA2 =>
 gB rA2 fun x2 =>
 some [.b x2]) (
 some [.b false])) (
 some [.b false])) (
 some [.b false])) fun vs1 =>
 gC vs1 fun m15 msA15 =>
 gB m15 fun x3 =>
 gN msA15 <|
 some (.b x3)
theorem linkR22Same (a b : MV) : bodyK cxR22Same [] none Try.f33 [a, b] = dR22Same a b := by kernel_rfl
noncomputable def gR22Same : Nat → List MV → Option MV := addG 33 (lst2 dR22Same) gL22Plain
theorem soundR22Same : SoundG Try.prog cx gR22Same :=
  soundL22Plain.fn (c' := cxR22Same) (caps := []) ⟨rfl, rfl, rfl, rfl, rfl, rfl, rfl, rfl⟩ rfl tab_ok eq_ok fk_ok mt_ok mix_ok Try.func33 (by kernel_rfl) (fun _ => rfl) (lst2_of linkR22Same)

noncomputable def cxSizeFast : Ctx := ⟨lookT tiTab, kk, gR22Same, gv, frs, lookN ftyOf, lookG sigTab, [], 5, [], [], lookL [], lookF fkTab, lookM mtTab, lookL [], lookH [], lookH [], lookH []⟩
noncomputable def dSizeFast (sA : MV) : Option MV :=
 gA sA fun cs =>
 gC cs fun m msA =>
 gI .i64 m fun F =>
 gC msA fun m1 msA1 =>
 gI .i64 m1 fun T =>
 gN msA1 <|
 bd (dSizeSizeOf (.agg [.i .i64 F, .i .i64 T]) (.raw (.complex .f64 4613937818241073152 4607182418800017408))) fun rA =>
 gI .i64 rA fun x =>
 some (.i .i64 x)
theorem linkSizeFast (sA : MV) : bodyK cxSizeFast [] none Try.f47 [sA] = dSizeFast sA := by kernel_rfl
noncomputable def gSizeFast : Nat → List MV → Option MV := addG 47 (lst1 dSizeFast) gR22Same
theorem soundSizeFast : SoundG Try.prog cx gSizeFast :=
  soundR22Same.fn (c' := cxSizeFast) (caps := []) ⟨rfl, rfl, rfl, rfl, rfl, rfl, rfl, rfl⟩ rfl tab_ok eq_ok fk_ok mt_ok mix_ok Try.func47 (by kernel_rfl) (fun _ => rfl) (lst1_of linkSizeFast)

noncomputable def cxLearnerAccepted : Ctx := ⟨lookT tiTab, kk, gSizeFast, gv, frs, lookN ftyOf, lookG sigTab, [], 22, [], [], lookL [], lookF fkTab, lookM mtTab, lookL [(1, [0, 1, 2, 3, 4, 5, 6, 7, 8, 9, 10, 11])], lookH [], lookH [(3, ⟨[4, 6], [], [], [(0, [(2, .box [.k (.i .i64), .k (.i .i64), .k .l, .k .l, .k .l, .k .b, .k .s])])], []⟩)], lookH []⟩
noncomputable def dLearnerAccepted (lA a : MV) : Option MV :=
 gA lA fun cs =>
 gC cs fun m msA =>
 gI .i64 m fun SF =>
 gC msA fun m1 msA1 =>
 gI .i64 m1 fun ST =>
 gC msA1 fun m2 msA2 =>
 gL m2 fun AcceptsL =>
 gC msA2 fun m3 msA3 =>
 gL m3 fun CommitsL =>
 gC msA3 fun m4 msA4 =>
 gL m4 fun ToldL =>
 gC msA4 fun m5 msA5 =>
 gB m5 fun Done =>
 gC msA5 fun m6 msA6 =>
 gS m6 fun Value =>
 gN msA6 <|
 gA a fun cs1 =>
 gC cs1 fun m7 msA7 =>
 gI .i64 m7 fun By =>
 gC msA7 fun m8 msA8 =>
 gI .i64 m8 fun View =>
 gC msA8 fun m9 msA9 =>
 gS m9 fun Value1 =>
 gN msA9 <|
 bd (dSizeFast (.agg [.i .i64 SF, .i .i64 ST])) fun rA =>
 gI .i64 rA fun x =>
 bd (dLearnerLearnerHears2 (.agg [.i .i64 SF, .i .i64 ST, .list AcceptsL, .list CommitsL, .list ToldL, .b Done, .s Value]) [.i .i64 SF, .i .i64 ST, .list AcceptsL, .list CommitsL, .list ToldL, .b Done, .s Value] (.agg [.i .i64 By, .i .i64 View, .s Value1]) (.i .i64 x)) fun rA1 =>
 gW rA1 fun x1 ls =>
 gC ls fun m10 msA10 =>
 gI .i64 m10 fun SF1 =>
 gC msA10 fun m11 msA11 =>
 gI .i64 m11 fun ST1 =>
 gC msA11 fun m12 msA12 =>
 gL m12 fun AcceptsL1 =>
 gC msA12 fun m13 msA13 =>
 gL m13 fun CommitsL1 =>
 gC msA13 fun m14 msA14 =>
 gL m14 fun ToldL1 =>
 gC msA14 fun m15 msA15 =>
 gB m15 fun Done1 =>
 gC msA15 fun m16 msA16 =>
 gS m16 fun Value2 =>
 gN msA16 <|
 gT x1 fun vs =>
 gC vs fun m17 msA17 =>
 gB m17 fun x2 =>
 gC msA17 fun m18 msA18 =>
 gS m18 fun x3 =>
 gN msA18 <|
 bd (
 ifB x2 (
 some (0, [.i .i64 SF1, .i .i64 ST1, .list AcceptsL1, .list CommitsL1, .list ToldL1, .b true, .s x3])) (
 some (0, [.i .i64 SF1, .i .i64 ST1, .list AcceptsL1, .list CommitsL1, .list ToldL1, .b Done1, .s Value2]))) fun p =>
 chk (Nat.beq p.1 0) <|
 gC p.2 fun m19 msA19 =>
 gI .i64 m19 fun lA1 =>
 gC msA19 fun m20 msA20 =>
 gI .i64 m20 fun lA2 =>
 gC msA20 fun m21 msA21 =>
 gL m21 fun lA3 =>
 gC msA21 fun m22 msA22 =>
 gL m22 fun lA4 =>
 gC msA22 fun m23 msA23 =>
 gL m23 fun lA5 =>
 gC msA23 fun m24 msA24 =>
 gB m24 fun lA6 =>
 gC msA24 fun m25 msA25 =>
 gS m25 fun lA7 =>
 gN msA25 <|
 some (.agg [.i .i64 lA1, .i .i64 lA2, .list lA3, .list lA4, .list lA5, .b lA6, .s lA7])
theorem linkLearnerAccepted (lA a : MV) : bodyK cxLearnerAccepted [] none Try.f39 [lA, a] = dLearnerAccepted lA a := by kernel_rfl
noncomputable def gLearnerAccepted : Nat → List MV → Option MV := addG 39 (lst2 dLearnerAccepted) gSizeFast
theorem soundLearnerAccepted : SoundG Try.prog cx gLearnerAccepted :=
  soundSizeFast.fn (c' := cxLearnerAccepted) (caps := []) ⟨rfl, rfl, rfl, rfl, rfl, rfl, rfl, rfl⟩ rfl tab_ok eq_ok fk_ok mt_ok mix_ok Try.func39 (by kernel_rfl) (fun _ => rfl) (lst2_of linkLearnerAccepted)

noncomputable def cxR18Add : Ctx := ⟨lookT tiTab, kk, gLearnerAccepted, gv, frs, lookN ftyOf, lookG sigTab, [], 70, [51, 60, 66], [], lookL [], lookF fkTab, lookM mtTab, lookL [], lookH [(11, ⟨[2, 3, 4, 6, 7, 8, 9], [14], [], [(0, [(48, .sc (.k .b))])], [14, 51, 60, 66]⟩), (9, ⟨[2, 3, 4, 6, 7, 8, 9], [14], [], [(0, [(38, .sc (.k .b))])], [14, 51, 60, 66]⟩)], lookH [(17, ⟨[3, 4], [], [], [(0, [(6, .sc (.own 14 72 true))])], [14, 51, 60, 66]⟩), (15, ⟨[2, 3, 4, 7, 8, 9], [], [], [(0, [(6, .sc (.own 14 72 true))])], [14, 51, 60, 66]⟩), (12, ⟨[2, 3, 4, 8, 9], [], [], [(0, [(6, .sc (.own 14 72 true)), (7, .sc (.k .b))])], [14, 51, 60, 66]⟩)], lookH [(6, ⟨[2, 3], [], [(4, .box [.k .l]), (6, .sc (.own 14 72 true)), (7, .sc (.k .b)), (8, .sc (.k (.i .i64)))], [(1, [(4, .box [.k .l]), (5, .sc (.k .b))]), (2, [(4, .box [.k .l]), (6, .sc (.own 14 72 true)), (7, .sc (.k .b))])], [14, 51, 60, 66]⟩)]⟩
noncomputable def dR18Add (a a1 : MV) : Option MV :=
 gA a fun cs =>
 gC cs fun m msA =>
 gL m fun L =>
 gN msA <|
 gA a1 fun cs1 =>
 gC cs1 fun m1 msA1 =>
 gI .i64 m1 fun By =>
 gC msA1 fun m2 msA2 =>
 gI .i64 m2 fun View =>
 gC msA2 fun m3 msA3 =>
 gS m3 fun Value =>
 gN msA3 <|
 bd (dR18May (.agg [.i .i64 By, .i .i64 View, .s Value])) fun rA =>
 gB rA fun x =>
 ifB (!x) (
 some (.tup [.agg [.list L], .b false])) (
 bd (Loop (fun msA4 =>
 gC msA4 fun m4 msA5 =>
 gL m4 fun x1 =>
 gC msA5 fun m5 msA6 =>
 gL m5 fun xs =>
 gC msA6 fun m6 msA7 =>
 gB m6 fun x2 =>
 gC msA7 fun m7 msA8 =>
 gI .i64 m7 fun x3 =>
 gN msA8 <|
 lenN L fun len =>
 ifB (decide (x3 < (len : Int))) (
 idx L x3 fun y =>
 gA y fun cs2 =>
 gC cs2 fun m8 msA9 =>
 gI .i64 m8 fun By1 =>
 gC msA9 fun m9 msA10 =>
 gI .i64 m9 fun View1 =>
 gC msA10 fun m10 msA11 =>
 gS m10 fun Value1 =>
 gN msA11 <|
 bd (
 ifB (decide (By1 = By)) (
 some [.b (decide (View ≤ View1))]) (
 some [.b false])) fun vs =>
 gC vs fun m11 msA12 =>
 gB m11 fun x4 =>
 gN msA12 <|
 ifB x4 (
 some (.inr (1, [.list L, .b false]))) (
 bd (
 ifB (!x2) (
 some [.b (decide (By ≤ By1))]) (
 some [.b false])) fun vs1 =>
 gC vs1 fun m12 msA13 =>
 gB m12 fun x5 =>
 gN msA13 <|
 bd (
 ifB x5 (
 lenN xs fun len1 =>
 lenN ([.agg [.i .i64 By, .i .i64 View, .s Value]] : List MV) fun len2 =>
 chk (decide ((len1 + len2) * 32 ≤ 2 ^ 46)) <|
 some (0, [.list (xs ++ ([.agg [.i .i64 By, .i .i64 View, .s Value]] : List MV)), .b true])) (
 some (0, [.list xs, .b x2]))) fun p1 =>
 chk (Nat.beq p1.1 0) <|
 gC p1.2 fun m13 msA14 =>
 gL m13 fun xs1 =>
 gC msA14 fun m14 msA15 =>
 gB m14 fun x6 =>
 gN msA15 <|
 bd (
 ifB (!decide (By1 = By)) (
 lenN xs1 fun len3 =>
 lenN ([.agg [.i .i64 By1, .i .i64 View1, .s Value1]] : List MV) fun len4 =>
 chk (decide ((len3 + len4) * 32 ≤ 2 ^ 46)) <|
 some (0, [.list (xs1 ++ ([.agg [.i .i64 By1, .i .i64 View1, .s Value1]] : List MV))])) (
 some (0, [.list xs1]))) fun p2 =>
 chk (Nat.beq p2.1 0) <|
 gC p2.2 fun m15 msA16 =>
 gL m15 fun xs2 =>
 gN msA16 <|
 some (.inl [.list x1, .list xs2, .b x6, .i .i64 (IntKind.wrap .i64 (x3 + 1))]))) (
 some (.inr (2, [.list x1, .list xs, .b x2])))) [.list ([] : List MV), .list ([] : List MV), .b false, .i .i64 0]) fun p =>
 ifB (Nat.beq p.1 2) (
 gC p.2 fun m16 msA17 =>
 gL m16 fun x7 =>
 gC msA17 fun m17 msA18 =>
 gL m17 fun xs3 =>
 gC msA18 fun m18 msA19 =>
 gB m18 fun x8 =>
 gN msA19 <|
 bd (
 ifB (!x8) (
 lenN xs3 fun len5 =>
 lenN ([.agg [.i .i64 By, .i .i64 View, .s Value]] : List MV) fun len6 =>
 chk (decide ((len5 + len6) * 32 ≤ 2 ^ 46)) <|
 some (0, [.list (xs3 ++ ([.agg [.i .i64 By, .i .i64 View, .s Value]] : List MV))])) (
 some (0, [.list xs3]))) fun p5 =>
 chk (Nat.beq p5.1 0) <|
 gC p5.2 fun m19 msA20 =>
 gL m19 fun xs4 =>
 gN msA20 <|
 some (.tup [.agg [.list xs4], .b true])) (
 chk (Nat.beq p.1 1) <|
 gC p.2 fun m20 msA21 =>
 gL m20 fun x9 =>
 gC msA21 fun m21 msA22 =>
 gB m21 fun x10 =>
 gN msA22 <|
 some (.tup [.agg [.list x9], .b x10])))
theorem linkR18Add (a a1 : MV) : bodyK cxR18Add [] none Try.f84 [a, a1] = dR18Add a a1 := by kernel_rfl
noncomputable def gR18Add : Nat → List MV → Option MV := addG 84 (lst2 dR18Add) gLearnerAccepted
theorem soundR18Add : SoundG Try.prog cx gR18Add :=
  soundLearnerAccepted.fn (c' := cxR18Add) (caps := []) ⟨rfl, rfl, rfl, rfl, rfl, rfl, rfl, rfl⟩ rfl tab_ok eq_ok fk_ok mt_ok mix_ok Try.func84 (by kernel_rfl) (fun _ => rfl) (lst2_of linkR18Add)

noncomputable def cxR18Voters : Ctx := ⟨lookT tiTab, kk, gR18Add, gv, frs, lookN ftyOf, lookG sigTab, [], 44, [41], [], lookL [], lookF fkTab, lookM mtTab, lookL [], lookH [(5, ⟨[1, 2, 3, 7, 8], [9], [], [(0, [(34, .sc (.k .b))])], [9, 41]⟩)], lookH [(6, ⟨[1, 2, 3, 8], [], [], [(0, [(7, .sc (.own 9 72 true))])], [9, 41]⟩)], lookH [(3, ⟨[1, 2, 3], [], [(7, .sc (.own 9 72 true)), (8, .sc (.k (.i .i64)))], [(2, [(7, .sc (.own 9 72 true))])], [9, 41]⟩)]⟩
noncomputable def dR18Voters (t view value : MV) : Option MV :=
 gA t fun cs =>
 gC cs fun m msA =>
 gL m fun L =>
 gN msA <|
 gI .i64 view fun view1 =>
 gS value fun value1 =>
 bd (Loop (fun msA1 =>
 gC msA1 fun m1 msA2 =>
 gL m1 fun out =>
 gC msA2 fun m2 msA3 =>
 gI .i64 m2 fun i =>
 gN msA3 <|
 lenN L fun len =>
 ifB (decide (i < (len : Int))) (
 bd (
 idx L i fun y =>
 gA y fun cs1 =>
 gC cs1 fun m3 msA4 =>
 gI .i64 m3 fun By =>
 gC msA4 fun m4 msA5 =>
 gI .i64 m4 fun View =>
 gC msA5 fun m5 msA6 =>
 gS m5 fun Value =>
 gN msA6 <|
 ifB (decide (View = view1)) (
 idx L i fun y1 =>
 gA y1 fun cs2 =>
 gC cs2 fun m6 msA7 =>
 gI .i64 m6 fun By1 =>
 gC msA7 fun m7 msA8 =>
 gI .i64 m7 fun View1 =>
 gC msA8 fun m8 msA9 =>
 gS m8 fun Value1 =>
 gN msA9 <|
 some [.b (decide (Value1 = value1))]) (
 some [.b false])) fun vs =>
 gC vs fun m9 msA10 =>
 gB m9 fun x =>
 gN msA10 <|
 bd (
 ifB x (
 idx L i fun y2 =>
 gA y2 fun cs3 =>
 gC cs3 fun m10 msA11 =>
 gI .i64 m10 fun By2 =>
 gC msA11 fun m11 msA12 =>
 gI .i64 m11 fun View2 =>
 gC msA12 fun m12 msA13 =>
 gS m12 fun Value2 =>
 gN msA13 <|
 lenN out fun len1 =>
 lenN ([.agg [.i .i64 By2, .i .i64 View2, .s Value2]] : List MV) fun len2 =>
 chk (decide ((len1 + len2) * 32 ≤ 2 ^ 46)) <|
 some (0, [.list (out ++ ([.agg [.i .i64 By2, .i .i64 View2, .s Value2]] : List MV))])) (
 some (0, [.list out]))) fun p1 =>
 chk (Nat.beq p1.1 0) <|
 gC p1.2 fun m13 msA14 =>
 gL m13 fun out1 =>
 gN msA14 <|
 some (.inl [.list out1, .i .i64 (IntKind.wrap .i64 (i + 1))])) (
 some (.inr (2, [.list out])))) [.list ([] : List MV), .i .i64 0]) fun p =>
 chk (Nat.beq p.1 2) <|
 gC p.2 fun m14 msA15 =>
 gL m14 fun out2 =>
 gN msA15 <|
 some (.list out2)
theorem linkR18Voters (t view value : MV) : bodyK cxR18Voters [] none Try.f120 [t, view, value] = dR18Voters t view value := by kernel_rfl
noncomputable def gR18Voters : Nat → List MV → Option MV := addG 120 (lst3 dR18Voters) gR18Add
theorem soundR18Voters : SoundG Try.prog cx gR18Voters :=
  soundR18Add.fn (c' := cxR18Voters) (caps := []) ⟨rfl, rfl, rfl, rfl, rfl, rfl, rfl, rfl⟩ rfl tab_ok eq_ok fk_ok mt_ok mix_ok Try.func120 (by kernel_rfl) (fun _ => rfl) (lst3_of linkR18Voters)

noncomputable def cxR18Count : Ctx := ⟨lookT tiTab, kk, gR18Voters, gv, frs, lookN ftyOf, lookG sigTab, [], 12, [], [], lookL [], lookF fkTab, lookM mtTab, lookL [], lookH [], lookH [], lookH []⟩
noncomputable def dR18Count (t view value : MV) : Option MV :=
 gA t fun cs =>
 gC cs fun m msA =>
 gL m fun L =>
 gN msA <|
 gI .i64 view fun view1 =>
 gS value fun value1 =>
 bd (dR18Voters (.agg [.list L]) (.i .i64 view1) (.s value1)) fun rA =>
 gL rA fun x =>
 lenN x fun len =>
 some (.i .i64 (len : Int))
theorem linkR18Count (t view value : MV) : bodyK cxR18Count [] none Try.f128 [t, view, value] = dR18Count t view value := by kernel_rfl
noncomputable def gR18Count : Nat → List MV → Option MV := addG 128 (lst3 dR18Count) gR18Voters
theorem soundR18Count : SoundG Try.prog cx gR18Count :=
  soundR18Voters.fn (c' := cxR18Count) (caps := []) ⟨rfl, rfl, rfl, rfl, rfl, rfl, rfl, rfl⟩ rfl tab_ok eq_ok fk_ok mt_ok mix_ok Try.func128 (by kernel_rfl) (fun _ => rfl) (lst3_of linkR18Count)

noncomputable def cxR18Best : Ctx := ⟨lookT tiTab, kk, gR18Count, gv, frs, lookN ftyOf, lookG sigTab, [], 64, [], [], lookL [], lookF fkTab, lookM mtTab, lookL [(6, [0, 1, 2, 3, 4, 6, 5, 7, 8, 9, 10, 11, 12, 13, 14, 15, 16, 17, 18, 19, 20, 21, 22]), (10, [0, 1, 2, 3, 4, 5, 6, 7, 8, 9, 10, 11, 12, 13, 14])], lookH [(6, ⟨[1, 2, 7, 8, 9], [], [], [(0, [(48, .sc (.k .b))])], []⟩), (3, ⟨[1, 2, 7, 8], [], [], [(0, [(18, .sc (.k .b))])], []⟩)], lookH [(7, ⟨[1, 2, 8], [], [], [(0, [(7, .sc (.k (.i .i64)))])], []⟩)], lookH [(3, ⟨[1, 2], [], [(7, .sc (.k (.i .i64))), (8, .sc (.k (.i .i64)))], [(2, [(7, .sc (.k (.i .i64)))])], []⟩)]⟩
noncomputable def dR18Best (t need : MV) : Option MV :=
 gA t fun cs =>
 gC cs fun m msA =>
 gL m fun L =>
 gN msA <|
 gI .i64 need fun need1 =>
 bd (Loop (fun msA1 =>
 gC msA1 fun m1 msA2 =>
 gI .i64 m1 fun best =>
 gC msA2 fun m2 msA3 =>
 gI .i64 m2 fun i =>
 gN msA3 <|
 bd (
 lenN L fun len =>
 ifB (decide (i < (len : Int))) (
 some [.b (decide ((1 : Int) ≤ need1))]) (
 some [.b false])) fun vs =>
 gC vs fun m3 msA4 =>
 gB m3 fun x =>
 gN msA4 <|
 ifB x (
 idx L i fun y =>
 gA y fun cs1 =>
 gC cs1 fun m4 msA5 =>
 gI .i64 m4 fun By =>
 gC msA5 fun m5 msA6 =>
 gI .i64 m5 fun View =>
 gC msA6 fun m6 msA7 =>
 gS m6 fun Value =>
 gN msA7 <|
 bd (
 bd (dR18Count (.agg [.list L]) (.i .i64 View) (.s Value)) fun rA =>
 gI .i64 rA fun x1 =>
 ifB (decide (need1 ≤ x1)) (
 ifB (decide (best < 0)) (
 some [.b true]) (
 idx L best fun y1 =>
 gA y1 fun cs2 =>
 gC cs2 fun m7 msA8 =>
 gI .i64 m7 fun By1 =>
 gC msA8 fun m8 msA9 =>
 gI .i64 m8 fun View1 =>
 gC msA9 fun m9 msA10 =>
 gS m9 fun Value1 =>
 gN msA10 <|
 some [.b (decide (View1 < View))])) (
 some [.b false])) fun vs1 =>
 gC vs1 fun m10 msA11 =>
 gB m10 fun x2 =>
 gN msA11 <|
 bd (
 ifB x2 (
 some (0, [.i .i64 i])) (
 some (0, [.i .i64 best]))) fun p1 =>
 chk (Nat.beq p1.1 0) <|
 gC p1.2 fun m11 msA12 =>
 gI .i64 m11 fun best1 =>
 gN msA12 <|
 some (.inl [.i .i64 best1, .i .i64 (IntKind.wrap .i64 (i + 1))])) (
 some (.inr (2, [.i .i64 best])))) [.i .i64 (-1), .i .i64 0]) fun p =>
 chk (Nat.beq p.1 2) <|
 gC p.2 fun m12 msA13 =>
 gI .i64 m12 fun best2 =>
 gN msA13 <|
 ifB (decide (best2 < 0)) (
 some (.tup [.i .i64 0, .s ([] : List UInt8), .b false])) (
 idx L best2 fun y2 =>
 gA y2 fun cs3 =>
 gC cs3 fun m13 msA14 =>
 gI .i64 m13 fun By2 =>
 gC msA14 fun m14 msA15 =>
 gI .i64 m14 fun View2 =>
 gC msA15 fun m15 msA16 =>
 gS m15 fun Value2 =>
 gN msA16 <|
 idx L best2 fun y3 =>
 gA y3 fun cs4 =>
 gC cs4 fun m16 msA17 =>
 gI .i64 m16 fun By3 =>
 gC msA17 fun m17 msA18 =>
 gI .i64 m17 fun View3 =>
 gC msA18 fun m18 msA19 =>
 gS m18 fun Value3 =>
 gN msA19 <|
 some (.tup [.i .i64 View2, .s Value3, .b true]))
theorem linkR18Best (t need : MV) : bodyK cxR18Best [] none Try.f109 [t, need] = dR18Best t need := by kernel_rfl
noncomputable def gR18Best : Nat → List MV → Option MV := addG 109 (lst2 dR18Best) gR18Count
theorem soundR18Best : SoundG Try.prog cx gR18Best :=
  soundR18Count.fn (c' := cxR18Best) (caps := []) ⟨rfl, rfl, rfl, rfl, rfl, rfl, rfl, rfl⟩ rfl tab_ok eq_ok fk_ok mt_ok mix_ok Try.func109 (by kernel_rfl) (fun _ => rfl) (lst2_of linkR18Best)

noncomputable def cxR22Learned : Ctx := ⟨lookT tiTab, kk, gR18Best, gv, frs, lookN ftyOf, lookG sigTab, [], 22, [], [], lookL [], lookF fkTab, lookM mtTab, lookL [], lookH [], lookH [(3, ⟨[6, 8], [], [], [(0, [(3, .box [.k (.i .i64), .k (.i .i64), .k .l, .k .l, .k .l, .k .b, .k .s])])], []⟩)], lookH []⟩
noncomputable def dR22Learned (lA t need : MV) : Option MV :=
 gA lA fun cs =>
 gC cs fun m msA =>
 gI .i64 m fun SF =>
 gC msA fun m1 msA1 =>
 gI .i64 m1 fun ST =>
 gC msA1 fun m2 msA2 =>
 gL m2 fun AcceptsL =>
 gC msA2 fun m3 msA3 =>
 gL m3 fun CommitsL =>
 gC msA3 fun m4 msA4 =>
 gL m4 fun ToldL =>
 gC msA4 fun m5 msA5 =>
 gB m5 fun Done =>
 gC msA5 fun m6 msA6 =>
 gS m6 fun Value =>
 gN msA6 <|
 gA t fun cs1 =>
 gC cs1 fun m7 msA7 =>
 gL m7 fun L =>
 gN msA7 <|
 gI .i64 need fun need1 =>
 bd (dR18Best (.agg [.list L]) (.i .i64 need1)) fun rA =>
 gT rA fun vs =>
 gC vs fun m8 msA8 =>
 gI .i64 m8 fun x =>
 gC msA8 fun m9 msA9 =>
 gS m9 fun x1 =>
 gC msA9 fun m10 msA10 =>
 gB m10 fun x2 =>
 gN msA10 <|
 bd (
 ifB x2 (
 some (0, [.i .i64 SF, .i .i64 ST, .list AcceptsL, .list CommitsL, .list ToldL, .b true, .s x1])) (
 some (0, [.i .i64 SF, .i .i64 ST, .list AcceptsL, .list CommitsL, .list ToldL, .b Done, .s Value]))) fun p =>
 chk (Nat.beq p.1 0) <|
 gC p.2 fun m11 msA11 =>
 gI .i64 m11 fun lA1 =>
 gC msA11 fun m12 msA12 =>
 gI .i64 m12 fun lA2 =>
 gC msA12 fun m13 msA13 =>
 gL m13 fun lA3 =>
 gC msA13 fun m14 msA14 =>
 gL m14 fun lA4 =>
 gC msA14 fun m15 msA15 =>
 gL m15 fun lA5 =>
 gC msA15 fun m16 msA16 =>
 gB m16 fun lA6 =>
 gC msA16 fun m17 msA17 =>
 gS m17 fun lA7 =>
 gN msA17 <|
 some (.agg [.i .i64 lA1, .i .i64 lA2, .list lA3, .list lA4, .list lA5, .b lA6, .s lA7])
theorem linkR22Learned (lA t need : MV) : bodyK cxR22Learned [] none Try.f86 [lA, t, need] = dR22Learned lA t need := by kernel_rfl
noncomputable def gR22Learned : Nat → List MV → Option MV := addG 86 (lst3 dR22Learned) gR18Best
theorem soundR22Learned : SoundG Try.prog cx gR22Learned :=
  soundR18Best.fn (c' := cxR22Learned) (caps := []) ⟨rfl, rfl, rfl, rfl, rfl, rfl, rfl, rfl⟩ rfl tab_ok eq_ok fk_ok mt_ok mix_ok Try.func86 (by kernel_rfl) (fun _ => rfl) (lst3_of linkR22Learned)

noncomputable def cxR07Fast : Ctx := ⟨lookT tiTab, kk, gR22Learned, gv, frs, lookN ftyOf, lookG sigTab, [], 10, [], [], lookL [], lookF fkTab, lookM mtTab, lookL [], lookH [], lookH [], lookH []⟩
noncomputable def dR07Fast (sA : MV) : Option MV :=
 gA sA fun cs =>
 gC cs fun m msA =>
 gI .i64 m fun F =>
 gC msA fun m1 msA1 =>
 gI .i64 m1 fun T =>
 gN msA1 <|
 some (.i .i64 (IntKind.wrap .i64 ((IntKind.wrap .i64 ((IntKind.wrap .i64 (3 * F)) + T)) + 1)))
theorem linkR07Fast (sA : MV) : bodyK cxR07Fast [] none Try.f87 [sA] = dR07Fast sA := by kernel_rfl
noncomputable def gR07Fast : Nat → List MV → Option MV := addG 87 (lst1 dR07Fast) gR22Learned
theorem soundR07Fast : SoundG Try.prog cx gR07Fast :=
  soundR22Learned.fn (c' := cxR07Fast) (caps := []) ⟨rfl, rfl, rfl, rfl, rfl, rfl, rfl, rfl⟩ rfl tab_ok eq_ok fk_ok mt_ok mix_ok Try.func87 (by kernel_rfl) (fun _ => rfl) (lst1_of linkR07Fast)

noncomputable def cxR22Accepted : Ctx := ⟨lookT tiTab, kk, gR07Fast, gv, frs, lookN ftyOf, lookG sigTab, [], 37, [], [], lookL [], lookF fkTab, lookM mtTab, lookL [(1, [0, 1, 2, 3, 4, 5, 6, 7, 8, 9]), (7, [0, 1, 2, 3, 4, 5, 6])], lookH [(1, ⟨[2, 3, 4], [], [], [(0, [(16, .sc (.k .b))])], []⟩)], lookH [], lookH []⟩
noncomputable def dR22Accepted (lA a : MV) : Option MV :=
 gA lA fun cs =>
 gC cs fun m msA =>
 gI .i64 m fun SF =>
 gC msA fun m1 msA1 =>
 gI .i64 m1 fun ST =>
 gC msA1 fun m2 msA2 =>
 gL m2 fun AcceptsL =>
 gC msA2 fun m3 msA3 =>
 gL m3 fun CommitsL =>
 gC msA3 fun m4 msA4 =>
 gL m4 fun ToldL =>
 gC msA4 fun m5 msA5 =>
 gB m5 fun Done =>
 gC msA5 fun m6 msA6 =>
 gS m6 fun Value =>
 gN msA6 <|
 gA a fun cs1 =>
 gC cs1 fun m7 msA7 =>
 gI .i64 m7 fun By =>
 gC msA7 fun m8 msA8 =>
 gI .i64 m8 fun View =>
 gC msA8 fun m9 msA9 =>
 gS m9 fun Value1 =>
 gN msA9 <|
 bd (
 ifB Done (
 some [.b true]) (
 bd (dR07N (.agg [.i .i64 SF, .i .i64 ST])) fun rA =>
 gI .i64 rA fun x =>
 some [.b (decide (x ≤ By))])) fun vs =>
 gC vs fun m10 msA10 =>
 gB m10 fun x1 =>
 gN msA10 <|
 ifB x1 (
 some (.agg [.i .i64 SF, .i .i64 ST, .list AcceptsL, .list CommitsL, .list ToldL, .b Done, .s Value])) (
 bd (dR18Add (.agg [.list AcceptsL]) (.agg [.i .i64 By, .i .i64 View, .s Value1])) fun rA1 =>
 gT rA1 fun vs1 =>
 gC vs1 fun m11 msA11 =>
 gA m11 fun cs2 =>
 gC cs2 fun m12 msA12 =>
 gL m12 fun L =>
 gN msA12 <|
 gC msA11 fun m13 msA13 =>
 gB m13 fun x2 =>
 gN msA13 <|
 bd (dR18May (.agg [.i .i64 By, .i .i64 View, .s Value1])) fun rA2 =>
 gB rA2 fun x3 =>
 ifB (!x3) (
 some (.agg [.i .i64 SF, .i .i64 ST, .list L, .list CommitsL, .list ToldL, .b Done, .s Value])) (
 bd (dR07Fast (.agg [.i .i64 SF, .i .i64 ST])) fun rA3 =>
 gI .i64 rA3 fun x4 =>
 bd (dR22Learned (.agg [.i .i64 SF, .i .i64 ST, .list L, .list CommitsL, .list ToldL, .b Done, .s Value]) (.agg [.list L]) (.i .i64 x4)) fun rA4 =>
 gA rA4 fun cs3 =>
 gC cs3 fun m14 msA14 =>
 gI .i64 m14 fun SF1 =>
 gC msA14 fun m15 msA15 =>
 gI .i64 m15 fun ST1 =>
 gC msA15 fun m16 msA16 =>
 gL m16 fun AcceptsL1 =>
 gC msA16 fun m17 msA17 =>
 gL m17 fun CommitsL1 =>
 gC msA17 fun m18 msA18 =>
 gL m18 fun ToldL1 =>
 gC msA18 fun m19 msA19 =>
 gB m19 fun Done1 =>
 gC msA19 fun m20 msA20 =>
 gS m20 fun Value2 =>
 gN msA20 <|
 some (.agg [.i .i64 SF1, .i .i64 ST1, .list AcceptsL1, .list CommitsL1, .list ToldL1, .b Done1, .s Value2])))
theorem linkR22Accepted (lA a : MV) : bodyK cxR22Accepted [] none Try.f40 [lA, a] = dR22Accepted lA a := by kernel_rfl
noncomputable def gR22Accepted : Nat → List MV → Option MV := addG 40 (lst2 dR22Accepted) gR07Fast
theorem soundR22Accepted : SoundG Try.prog cx gR22Accepted :=
  soundR07Fast.fn (c' := cxR22Accepted) (caps := []) ⟨rfl, rfl, rfl, rfl, rfl, rfl, rfl, rfl⟩ rfl tab_ok eq_ok fk_ok mt_ok mix_ok Try.func40 (by kernel_rfl) (fun _ => rfl) (lst2_of linkR22Accepted)

noncomputable def cxLearnerCommitted : Ctx := ⟨lookT tiTab, kk, gR22Accepted, gv, frs, lookN ftyOf, lookG sigTab, [], 42, [], [], lookL [], lookF fkTab, lookM mtTab, lookL [(4, [0, 1, 2, 3, 4, 5, 6, 7, 8, 9, 10, 11, 12, 13, 14])], lookH [], lookH [(6, ⟨[6, 11], [], [], [(0, [(3, .box [.k (.i .i64), .k (.i .i64), .k .l, .k .l, .k .l, .k .b, .k .s])])], []⟩)], lookH []⟩
noncomputable def dLearnerCommitted (lA byA p : MV) : Option MV :=
 gA lA fun cs =>
 gC cs fun m msA =>
 gI .i64 m fun SF =>
 gC msA fun m1 msA1 =>
 gI .i64 m1 fun ST =>
 gC msA1 fun m2 msA2 =>
 gL m2 fun AcceptsL =>
 gC msA2 fun m3 msA3 =>
 gL m3 fun CommitsL =>
 gC msA3 fun m4 msA4 =>
 gL m4 fun ToldL =>
 gC msA4 fun m5 msA5 =>
 gB m5 fun Done =>
 gC msA5 fun m6 msA6 =>
 gS m6 fun Value =>
 gN msA6 <|
 gI .i64 byA fun byA1 =>
 gL p fun p1 =>
 bd (dProofRight (.agg [.i .i64 SF, .i .i64 ST]) (.list p1)) fun rA =>
 gB rA fun x =>
 ifB (!x) (
 some (.agg [.i .i64 SF, .i .i64 ST, .list AcceptsL, .list CommitsL, .list ToldL, .b Done, .s Value])) (
 bd (dProofOf (.list p1)) fun rA1 =>
 gT rA1 fun vs =>
 gC vs fun m7 msA7 =>
 gI .i64 m7 fun x1 =>
 gC msA7 fun m8 msA8 =>
 gS m8 fun x2 =>
 gC msA8 fun m9 msA9 =>
 gB m9 fun x3 =>
 gN msA9 <|
 bd (dSizeProof (.agg [.i .i64 SF, .i .i64 ST])) fun rA2 =>
 gI .i64 rA2 fun x4 =>
 bd (dLearnerLearnerHears3 (.agg [.i .i64 SF, .i .i64 ST, .list AcceptsL, .list CommitsL, .list ToldL, .b Done, .s Value]) [.i .i64 SF, .i .i64 ST, .list AcceptsL, .list CommitsL, .list ToldL, .b Done, .s Value] (.agg [.i .i64 byA1, .i .i64 x1, .s x2]) (.i .i64 x4)) fun rA3 =>
 gW rA3 fun x5 ls =>
 gC ls fun m10 msA10 =>
 gI .i64 m10 fun SF1 =>
 gC msA10 fun m11 msA11 =>
 gI .i64 m11 fun ST1 =>
 gC msA11 fun m12 msA12 =>
 gL m12 fun AcceptsL1 =>
 gC msA12 fun m13 msA13 =>
 gL m13 fun CommitsL1 =>
 gC msA13 fun m14 msA14 =>
 gL m14 fun ToldL1 =>
 gC msA14 fun m15 msA15 =>
 gB m15 fun Done1 =>
 gC msA15 fun m16 msA16 =>
 gS m16 fun Value1 =>
 gN msA16 <|
 gT x5 fun vs1 =>
 gC vs1 fun m17 msA17 =>
 gB m17 fun x6 =>
 gC msA17 fun m18 msA18 =>
 gS m18 fun x7 =>
 gN msA18 <|
 bd (
 ifB x6 (
 some (0, [.i .i64 SF1, .i .i64 ST1, .list AcceptsL1, .list CommitsL1, .list ToldL1, .b true, .s x7])) (
 some (0, [.i .i64 SF1, .i .i64 ST1, .list AcceptsL1, .list CommitsL1, .list ToldL1, .b Done1, .s Value1]))) fun p2 =>
 chk (Nat.beq p2.1 0) <|
 gC p2.2 fun m19 msA19 =>
 gI .i64 m19 fun lA1 =>
 gC msA19 fun m20 msA20 =>
 gI .i64 m20 fun lA2 =>
 gC msA20 fun m21 msA21 =>
 gL m21 fun lA3 =>
 gC msA21 fun m22 msA22 =>
 gL m22 fun lA4 =>
 gC msA22 fun m23 msA23 =>
 gL m23 fun lA5 =>
 gC msA23 fun m24 msA24 =>
 gB m24 fun lA6 =>
 gC msA24 fun m25 msA25 =>
 gS m25 fun lA7 =>
 gN msA25 <|
 some (.agg [.i .i64 lA1, .i .i64 lA2, .list lA3, .list lA4, .list lA5, .b lA6, .s lA7]))
theorem linkLearnerCommitted (lA byA p : MV) : bodyK cxLearnerCommitted [] none Try.f41 [lA, byA, p] = dLearnerCommitted lA byA p := by kernel_rfl
noncomputable def gLearnerCommitted : Nat → List MV → Option MV := addG 41 (lst3 dLearnerCommitted) gR22Accepted
theorem soundLearnerCommitted : SoundG Try.prog cx gLearnerCommitted :=
  soundR22Accepted.fn (c' := cxLearnerCommitted) (caps := []) ⟨rfl, rfl, rfl, rfl, rfl, rfl, rfl, rfl⟩ rfl tab_ok eq_ok fk_ok mt_ok mix_ok Try.func41 (by kernel_rfl) (fun _ => rfl) (lst3_of linkLearnerCommitted)

noncomputable def cxR22Committed : Ctx := ⟨lookT tiTab, kk, gLearnerCommitted, gv, frs, lookN ftyOf, lookG sigTab, [], 54, [], [], lookL [], lookF fkTab, lookM mtTab, lookL [(3, [0, 1, 2, 3, 4, 5, 6, 7, 8, 9, 10, 11, 12, 13, 14, 15, 16, 17, 18]), (5, [0, 1, 2, 3, 4, 5, 6])], lookH [(1, ⟨[1, 2, 3, 6], [], [], [(0, [(28, .sc (.k .b))])], []⟩)], lookH [], lookH []⟩
noncomputable def dR22Committed (lA byA p : MV) : Option MV :=
 gA lA fun cs =>
 gC cs fun m msA =>
 gI .i64 m fun SF =>
 gC msA fun m1 msA1 =>
 gI .i64 m1 fun ST =>
 gC msA1 fun m2 msA2 =>
 gL m2 fun AcceptsL =>
 gC msA2 fun m3 msA3 =>
 gL m3 fun CommitsL =>
 gC msA3 fun m4 msA4 =>
 gL m4 fun ToldL =>
 gC msA4 fun m5 msA5 =>
 gB m5 fun Done =>
 gC msA5 fun m6 msA6 =>
 gS m6 fun Value =>
 gN msA6 <|
 gI .i64 byA fun byA1 =>
 gL p fun p1 =>
 bd (
 ifB Done (
 some [.b true]) (
 ifB (decide (byA1 < 0)) (
 some [.b true]) (
 bd (dR07N (.agg [.i .i64 SF, .i .i64 ST])) fun rA =>
 gI .i64 rA fun x =>
 ifB (decide (x ≤ byA1)) (
 some [.b true]) (
 bd (dR19Right (.agg [.i .i64 SF, .i .i64 ST]) (.list p1)) fun rA1 =>
 gB rA1 fun x1 =>
 some [.b (!x1)])))) fun vs =>
 gC vs fun m7 msA7 =>
 gB m7 fun x2 =>
 gN msA7 <|
 ifB x2 (
 some (.agg [.i .i64 SF, .i .i64 ST, .list AcceptsL, .list CommitsL, .list ToldL, .b Done, .s Value])) (
 idx p1 0 fun y =>
 gA y fun cs1 =>
 gC cs1 fun m8 msA8 =>
 gI .i64 m8 fun By =>
 gC msA8 fun m9 msA9 =>
 gI .i64 m9 fun View =>
 gC msA9 fun m10 msA10 =>
 gS m10 fun Value1 =>
 gN msA10 <|
 idx p1 0 fun y1 =>
 gA y1 fun cs2 =>
 gC cs2 fun m11 msA11 =>
 gI .i64 m11 fun By1 =>
 gC msA11 fun m12 msA12 =>
 gI .i64 m12 fun View1 =>
 gC msA12 fun m13 msA13 =>
 gS m13 fun Value2 =>
 gN msA13 <|
 bd (dR18Add (.agg [.list CommitsL]) (.agg [.i .i64 byA1, .i .i64 View, .s Value2])) fun rA2 =>
 gT rA2 fun vs1 =>
 gC vs1 fun m14 msA14 =>
 gA m14 fun cs3 =>
 gC cs3 fun m15 msA15 =>
 gL m15 fun L =>
 gN msA15 <|
 gC msA14 fun m16 msA16 =>
 gB m16 fun x3 =>
 gN msA16 <|
 bd (dR07Proof (.agg [.i .i64 SF, .i .i64 ST])) fun rA3 =>
 gI .i64 rA3 fun x4 =>
 bd (dR22Learned (.agg [.i .i64 SF, .i .i64 ST, .list AcceptsL, .list L, .list ToldL, .b Done, .s Value]) (.agg [.list L]) (.i .i64 x4)) fun rA4 =>
 gA rA4 fun cs4 =>
 gC cs4 fun m17 msA17 =>
 gI .i64 m17 fun SF1 =>
 gC msA17 fun m18 msA18 =>
 gI .i64 m18 fun ST1 =>
 gC msA18 fun m19 msA19 =>
 gL m19 fun AcceptsL1 =>
 gC msA19 fun m20 msA20 =>
 gL m20 fun CommitsL1 =>
 gC msA20 fun m21 msA21 =>
 gL m21 fun ToldL1 =>
 gC msA21 fun m22 msA22 =>
 gB m22 fun Done1 =>
 gC msA22 fun m23 msA23 =>
 gS m23 fun Value3 =>
 gN msA23 <|
 some (.agg [.i .i64 SF1, .i .i64 ST1, .list AcceptsL1, .list CommitsL1, .list ToldL1, .b Done1, .s Value3]))
theorem linkR22Committed (lA byA p : MV) : bodyK cxR22Committed [] none Try.f42 [lA, byA, p] = dR22Committed lA byA p := by kernel_rfl
noncomputable def gR22Committed : Nat → List MV → Option MV := addG 42 (lst3 dR22Committed) gLearnerCommitted
theorem soundR22Committed : SoundG Try.prog cx gR22Committed :=
  soundLearnerCommitted.fn (c' := cxR22Committed) (caps := []) ⟨rfl, rfl, rfl, rfl, rfl, rfl, rfl, rfl⟩ rfl tab_ok eq_ok fk_ok mt_ok mix_ok Try.func42 (by kernel_rfl) (fun _ => rfl) (lst3_of linkR22Committed)

noncomputable def cxR07Weak : Ctx := ⟨lookT tiTab, kk, gR22Committed, gv, frs, lookN ftyOf, lookG sigTab, [], 6, [], [], lookL [], lookF fkTab, lookM mtTab, lookL [], lookH [], lookH [], lookH []⟩
noncomputable def dR07Weak (sA : MV) : Option MV :=
 gA sA fun cs =>
 gC cs fun m msA =>
 gI .i64 m fun F =>
 gC msA fun m1 msA1 =>
 gI .i64 m1 fun T =>
 gN msA1 <|
 some (.i .i64 (IntKind.wrap .i64 (F + 1)))
theorem linkR07Weak (sA : MV) : bodyK cxR07Weak [] none Try.f90 [sA] = dR07Weak sA := by kernel_rfl
noncomputable def gR07Weak : Nat → List MV → Option MV := addG 90 (lst1 dR07Weak) gR22Committed
theorem soundR07Weak : SoundG Try.prog cx gR07Weak :=
  soundR22Committed.fn (c' := cxR07Weak) (caps := []) ⟨rfl, rfl, rfl, rfl, rfl, rfl, rfl, rfl⟩ rfl tab_ok eq_ok fk_ok mt_ok mix_ok Try.func90 (by kernel_rfl) (fun _ => rfl) (lst1_of linkR07Weak)

noncomputable def cxR22Told : Ctx := ⟨lookT tiTab, kk, gR07Weak, gv, frs, lookN ftyOf, lookG sigTab, [], 45, [], [], lookL [], lookF fkTab, lookM mtTab, lookL [(5, [0, 1, 2, 3, 4, 5, 6])], lookH [(1, ⟨[1, 2, 3, 6], [], [], [(0, [(26, .sc (.k .b))])], []⟩)], lookH [], lookH []⟩
noncomputable def dR22Told (lA byA value : MV) : Option MV :=
 gA lA fun cs =>
 gC cs fun m msA =>
 gI .i64 m fun SF =>
 gC msA fun m1 msA1 =>
 gI .i64 m1 fun ST =>
 gC msA1 fun m2 msA2 =>
 gL m2 fun AcceptsL =>
 gC msA2 fun m3 msA3 =>
 gL m3 fun CommitsL =>
 gC msA3 fun m4 msA4 =>
 gL m4 fun ToldL =>
 gC msA4 fun m5 msA5 =>
 gB m5 fun Done =>
 gC msA5 fun m6 msA6 =>
 gS m6 fun Value =>
 gN msA6 <|
 gI .i64 byA fun byA1 =>
 gS value fun value1 =>
 bd (
 ifB Done (
 some [.b true]) (
 ifB (decide (byA1 < 0)) (
 some [.b true]) (
 bd (dR07N (.agg [.i .i64 SF, .i .i64 ST])) fun rA =>
 gI .i64 rA fun x =>
 ifB (decide (x ≤ byA1)) (
 some [.b true]) (
 some [.b (decide ((6000 : Int) < (value1.length : Int)))])))) fun vs =>
 gC vs fun m7 msA7 =>
 gB m7 fun x1 =>
 gN msA7 <|
 ifB x1 (
 some (.agg [.i .i64 SF, .i .i64 ST, .list AcceptsL, .list CommitsL, .list ToldL, .b Done, .s Value])) (
 bd (dR18Add (.agg [.list ToldL]) (.agg [.i .i64 byA1, .i .i64 0, .s value1])) fun rA1 =>
 gT rA1 fun vs1 =>
 gC vs1 fun m8 msA8 =>
 gA m8 fun cs1 =>
 gC cs1 fun m9 msA9 =>
 gL m9 fun L =>
 gN msA9 <|
 gC msA8 fun m10 msA10 =>
 gB m10 fun x2 =>
 gN msA10 <|
 bd (dR07Weak (.agg [.i .i64 SF, .i .i64 ST])) fun rA2 =>
 gI .i64 rA2 fun x3 =>
 bd (dR22Learned (.agg [.i .i64 SF, .i .i64 ST, .list AcceptsL, .list CommitsL, .list L, .b Done, .s Value]) (.agg [.list L]) (.i .i64 x3)) fun rA3 =>
 gA rA3 fun cs2 =>
 gC cs2 fun m11 msA11 =>
 gI .i64 m11 fun SF1 =>
 gC msA11 fun m12 msA12 =>
 gI .i64 m12 fun ST1 =>
 gC msA12 fun m13 msA13 =>
 gL m13 fun AcceptsL1 =>
 gC msA13 fun m14 msA14 =>
 gL m14 fun CommitsL1 =>
 gC msA14 fun m15 msA15 =>
 gL m15 fun ToldL1 =>
 gC msA15 fun m16 msA16 =>
 gB m16 fun Done1 =>
 gC msA16 fun m17 msA17 =>
 gS m17 fun Value1 =>
 gN msA17 <|
 some (.agg [.i .i64 SF1, .i .i64 ST1, .list AcceptsL1, .list CommitsL1, .list ToldL1, .b Done1, .s Value1]))
theorem linkR22Told (lA byA value : MV) : bodyK cxR22Told [] none Try.f44 [lA, byA, value] = dR22Told lA byA value := by kernel_rfl
noncomputable def gR22Told : Nat → List MV → Option MV := addG 44 (lst3 dR22Told) gR07Weak
theorem soundR22Told : SoundG Try.prog cx gR22Told :=
  soundR07Weak.fn (c' := cxR22Told) (caps := []) ⟨rfl, rfl, rfl, rfl, rfl, rfl, rfl, rfl⟩ rfl tab_ok eq_ok fk_ok mt_ok mix_ok Try.func44 (by kernel_rfl) (fun _ => rfl) (lst3_of linkR22Told)

noncomputable def cxL22LearnerTurns : Ctx := ⟨lookT tiTab, kk, gR22Told, gv, frs, lookN ftyOf, lookG sigTab, [], 90, [], [], lookL [], lookF fkTab, lookM mtTab, lookL [(4, [0, 1, 2, 5, 6, 7, 3, 4, 8, 9, 10]), (5, [0, 1, 2, 3, 4, 7, 8, 9, 10, 11, 5, 6, 12, 13, 14]), (6, [0, 1, 2, 3, 4, 5, 8, 9, 10, 11, 12, 13, 6, 7, 14, 15, 16]), (7, [0, 1, 2, 3, 4, 5, 6, 7, 8, 9, 10, 11, 13, 12, 14, 15, 16])], lookH [(7, ⟨[2, 5, 6, 7, 8], [], [], [(0, [(4, .sc (.k .b))])], []⟩), (1, ⟨[2, 3], [], [], [(0, [(30, .sc (.k .b))])], []⟩)], lookH [], lookH []⟩
noncomputable def dL22LearnerTurns (a a1 : MV) : Option MV :=
 gA a fun cs =>
 gC cs fun m msA =>
 gI .i64 m fun SF =>
 gC msA fun m1 msA1 =>
 gI .i64 m1 fun ST =>
 gC msA1 fun m2 msA2 =>
 gL m2 fun AcceptsL =>
 gC msA2 fun m3 msA3 =>
 gL m3 fun CommitsL =>
 gC msA3 fun m4 msA4 =>
 gL m4 fun ToldL =>
 gC msA4 fun m5 msA5 =>
 gB m5 fun Done =>
 gC msA5 fun m6 msA6 =>
 gS m6 fun Value =>
 gN msA6 <|
 gA a1 fun cs1 =>
 gC cs1 fun m7 msA7 =>
 gI .i64 m7 fun Kind =>
 gC msA7 fun m8 msA8 =>
 gI .i64 m8 fun By =>
 gC msA8 fun m9 msA9 =>
 gI .i64 m9 fun ABy =>
 gC msA9 fun m10 msA10 =>
 gI .i64 m10 fun AView =>
 gC msA10 fun m11 msA11 =>
 gS m11 fun AValue =>
 gC msA11 fun m12 msA12 =>
 gL m12 fun P =>
 gN msA12 <|
 bd (
 bd (dL22Few (.agg [.i .i64 SF, .i .i64 ST, .list AcceptsL, .list CommitsL, .list ToldL, .b Done, .s Value])) fun rA =>
 gB rA fun x =>
 ifB (!x) (
 some [.b true]) (
 bd (dL22Votes (.list P)) fun rA1 =>
 gB rA1 fun x1 =>
 ifB (!x1) (
 some [.b true]) (
 ifB (decide ((6100 : Int) < (AValue.length : Int))) (
 some [.b true]) (
 bd (dL22Plain (.agg [.i .i64 SF, .i .i64 ST, .list AcceptsL, .list CommitsL, .list ToldL, .b Done, .s Value])) fun rA2 =>
 gA rA2 fun cs2 =>
 gC cs2 fun m13 msA13 =>
 gI .i64 m13 fun SF1 =>
 gC msA13 fun m14 msA14 =>
 gI .i64 m14 fun ST1 =>
 gC msA14 fun m15 msA15 =>
 gL m15 fun AcceptsL1 =>
 gC msA15 fun m16 msA16 =>
 gL m16 fun CommitsL1 =>
 gC msA16 fun m17 msA17 =>
 gL m17 fun ToldL1 =>
 gC msA17 fun m18 msA18 =>
 gB m18 fun Done1 =>
 gC msA18 fun m19 msA19 =>
 gS m19 fun Value1 =>
 gN msA19 <|
 bd (dR22Right (.agg [.i .i64 SF1, .i .i64 ST1, .list AcceptsL1, .list CommitsL1, .list ToldL1, .b Done1, .s Value1])) fun rA3 =>
 gB rA3 fun x2 =>
 some [.b (!x2)])))) fun vs =>
 gC vs fun m20 msA20 =>
 gB m20 fun x3 =>
 gN msA20 <|
 ifB x3 (
 bd (dL22Alive) fun rA4 =>
 gB rA4 fun x4 =>
 some (.b x4)) (
 bd (dL22Plain (.agg [.i .i64 SF, .i .i64 ST, .list AcceptsL, .list CommitsL, .list ToldL, .b Done, .s Value])) fun rA5 =>
 gA rA5 fun cs3 =>
 gC cs3 fun m21 msA21 =>
 gI .i64 m21 fun SF2 =>
 gC msA21 fun m22 msA22 =>
 gI .i64 m22 fun ST2 =>
 gC msA22 fun m23 msA23 =>
 gL m23 fun AcceptsL2 =>
 gC msA23 fun m24 msA24 =>
 gL m24 fun CommitsL2 =>
 gC msA24 fun m25 msA25 =>
 gL m25 fun ToldL2 =>
 gC msA25 fun m26 msA26 =>
 gB m26 fun Done2 =>
 gC msA26 fun m27 msA27 =>
 gS m27 fun Value2 =>
 gN msA27 <|
 bd (dLearnerAccepted (.agg [.i .i64 SF, .i .i64 ST, .list AcceptsL, .list CommitsL, .list ToldL, .b Done, .s Value]) (.agg [.i .i64 ABy, .i .i64 AView, .s AValue])) fun rA6 =>
 gA rA6 fun cs4 =>
 gC cs4 fun m28 msA28 =>
 gI .i64 m28 fun SF3 =>
 gC msA28 fun m29 msA29 =>
 gI .i64 m29 fun ST3 =>
 gC msA29 fun m30 msA30 =>
 gL m30 fun AcceptsL3 =>
 gC msA30 fun m31 msA31 =>
 gL m31 fun CommitsL3 =>
 gC msA31 fun m32 msA32 =>
 gL m32 fun ToldL3 =>
 gC msA32 fun m33 msA33 =>
 gB m33 fun Done3 =>
 gC msA33 fun m34 msA34 =>
 gS m34 fun Value3 =>
 gN msA34 <|
 bd (dL22Plain (.agg [.i .i64 SF3, .i .i64 ST3, .list AcceptsL3, .list CommitsL3, .list ToldL3, .b Done3, .s Value3])) fun rA7 =>
 gA rA7 fun cs5 =>
 gC cs5 fun m35 msA35 =>
 gI .i64 m35 fun SF4 =>
 gC msA35 fun m36 msA36 =>
 gI .i64 m36 fun ST4 =>
 gC msA36 fun m37 msA37 =>
 gL m37 fun AcceptsL4 =>
 gC msA37 fun m38 msA38 =>
 gL m38 fun CommitsL4 =>
 gC msA38 fun m39 msA39 =>
 gL m39 fun ToldL4 =>
 gC msA39 fun m40 msA40 =>
 gB m40 fun Done4 =>
 gC msA40 fun m41 msA41 =>
 gS m41 fun Value4 =>
 gN msA41 <|
 bd (dR22Accepted (.agg [.i .i64 SF2, .i .i64 ST2, .list AcceptsL2, .list CommitsL2, .list ToldL2, .b Done2, .s Value2]) (.agg [.i .i64 ABy, .i .i64 AView, .s AValue])) fun rA8 =>
 gA rA8 fun cs6 =>
 gC cs6 fun m42 msA42 =>
 gI .i64 m42 fun SF5 =>
 gC msA42 fun m43 msA43 =>
 gI .i64 m43 fun ST5 =>
 gC msA43 fun m44 msA44 =>
 gL m44 fun AcceptsL5 =>
 gC msA44 fun m45 msA45 =>
 gL m45 fun CommitsL5 =>
 gC msA45 fun m46 msA46 =>
 gL m46 fun ToldL5 =>
 gC msA46 fun m47 msA47 =>
 gB m47 fun Done5 =>
 gC msA47 fun m48 msA48 =>
 gS m48 fun Value5 =>
 gN msA48 <|
 bd (dR22Same (.agg [.i .i64 SF4, .i .i64 ST4, .list AcceptsL4, .list CommitsL4, .list ToldL4, .b Done4, .s Value4]) (.agg [.i .i64 SF5, .i .i64 ST5, .list AcceptsL5, .list CommitsL5, .list ToldL5, .b Done5, .s Value5])) fun rA9 =>
 gB rA9 fun x5 =>
 bd (dLearnerCommitted (.agg [.i .i64 SF, .i .i64 ST, .list AcceptsL, .list CommitsL, .list ToldL, .b Done, .s Value]) (.i .i64 By) (.list P)) fun rA10 =>
 gA rA10 fun cs7 =>
 gC cs7 fun m49 msA49 =>
 gI .i64 m49 fun SF6 =>
 gC msA49 fun m50 msA50 =>
 gI .i64 m50 fun ST6 =>
 gC msA50 fun m51 msA51 =>
 gL m51 fun AcceptsL6 =>
 gC msA51 fun m52 msA52 =>
 gL m52 fun CommitsL6 =>
 gC msA52 fun m53 msA53 =>
 gL m53 fun ToldL6 =>
 gC msA53 fun m54 msA54 =>
 gB m54 fun Done6 =>
 gC msA54 fun m55 msA55 =>
 gS m55 fun Value6 =>
 gN msA55 <|
 bd (dL22Plain (.agg [.i .i64 SF6, .i .i64 ST6, .list AcceptsL6, .list CommitsL6, .list ToldL6, .b Done6, .s Value6])) fun rA11 =>
 gA rA11 fun cs8 =>
 gC cs8 fun m56 msA56 =>
 gI .i64 m56 fun SF7 =>
 gC msA56 fun m57 msA57 =>
 gI .i64 m57 fun ST7 =>
 gC msA57 fun m58 msA58 =>
 gL m58 fun AcceptsL7 =>
 gC msA58 fun m59 msA59 =>
 gL m59 fun CommitsL7 =>
 gC msA59 fun m60 msA60 =>
 gL m60 fun ToldL7 =>
 gC msA60 fun m61 msA61 =>
 gB m61 fun Done7 =>
 gC msA61 fun m62 msA62 =>
 gS m62 fun Value7 =>
 gN msA62 <|
 bd (dR22Committed (.agg [.i .i64 SF2, .i .i64 ST2, .list AcceptsL2, .list CommitsL2, .list ToldL2, .b Done2, .s Value2]) (.i .i64 By) (.list P)) fun rA12 =>
 gA rA12 fun cs9 =>
 gC cs9 fun m63 msA63 =>
 gI .i64 m63 fun SF8 =>
 gC msA63 fun m64 msA64 =>
 gI .i64 m64 fun ST8 =>
 gC msA64 fun m65 msA65 =>
 gL m65 fun AcceptsL8 =>
 gC msA65 fun m66 msA66 =>
 gL m66 fun CommitsL8 =>
 gC msA66 fun m67 msA67 =>
 gL m67 fun ToldL8 =>
 gC msA67 fun m68 msA68 =>
 gB m68 fun Done8 =>
 gC msA68 fun m69 msA69 =>
 gS m69 fun Value8 =>
 gN msA69 <|
 bd (dR22Same (.agg [.i .i64 SF7, .i .i64 ST7, .list AcceptsL7, .list CommitsL7, .list ToldL7, .b Done7, .s Value7]) (.agg [.i .i64 SF8, .i .i64 ST8, .list AcceptsL8, .list CommitsL8, .list ToldL8, .b Done8, .s Value8])) fun rA13 =>
 gB rA13 fun x6 =>
 bd (dLearnerTold (.agg [.i .i64 SF, .i .i64 ST, .list AcceptsL, .list CommitsL, .list ToldL, .b Done, .s Value]) (.i .i64 By) (.s AValue)) fun rA14 =>
 gA rA14 fun cs10 =>
 gC cs10 fun m70 msA70 =>
 gI .i64 m70 fun SF9 =>
 gC msA70 fun m71 msA71 =>
 gI .i64 m71 fun ST9 =>
 gC msA71 fun m72 msA72 =>
 gL m72 fun AcceptsL9 =>
 gC msA72 fun m73 msA73 =>
 gL m73 fun CommitsL9 =>
 gC msA73 fun m74 msA74 =>
 gL m74 fun ToldL9 =>
 gC msA74 fun m75 msA75 =>
 gB m75 fun Done9 =>
 gC msA75 fun m76 msA76 =>
 gS m76 fun Value9 =>
 gN msA76 <|
 bd (dL22Plain (.agg [.i .i64 SF9, .i .i64 ST9, .list AcceptsL9, .list CommitsL9, .list ToldL9, .b Done9, .s Value9])) fun rA15 =>
 gA rA15 fun cs11 =>
 gC cs11 fun m77 msA77 =>
 gI .i64 m77 fun SF10 =>
 gC msA77 fun m78 msA78 =>
 gI .i64 m78 fun ST10 =>
 gC msA78 fun m79 msA79 =>
 gL m79 fun AcceptsL10 =>
 gC msA79 fun m80 msA80 =>
 gL m80 fun CommitsL10 =>
 gC msA80 fun m81 msA81 =>
 gL m81 fun ToldL10 =>
 gC msA81 fun m82 msA82 =>
 gB m82 fun Done10 =>
 gC msA82 fun m83 msA83 =>
 gS m83 fun Value10 =>
 gN msA83 <|
 bd (dR22Told (.agg [.i .i64 SF2, .i .i64 ST2, .list AcceptsL2, .list CommitsL2, .list ToldL2, .b Done2, .s Value2]) (.i .i64 By) (.s AValue)) fun rA16 =>
 gA rA16 fun cs12 =>
 gC cs12 fun m84 msA84 =>
 gI .i64 m84 fun SF11 =>
 gC msA84 fun m85 msA85 =>
 gI .i64 m85 fun ST11 =>
 gC msA85 fun m86 msA86 =>
 gL m86 fun AcceptsL11 =>
 gC msA86 fun m87 msA87 =>
 gL m87 fun CommitsL11 =>
 gC msA87 fun m88 msA88 =>
 gL m88 fun ToldL11 =>
 gC msA88 fun m89 msA89 =>
 gB m89 fun Done11 =>
 gC msA89 fun m90 msA90 =>
 gS m90 fun Value11 =>
 gN msA90 <|
 bd (dR22Same (.agg [.i .i64 SF10, .i .i64 ST10, .list AcceptsL10, .list CommitsL10, .list ToldL10, .b Done10, .s Value10]) (.agg [.i .i64 SF11, .i .i64 ST11, .list AcceptsL11, .list CommitsL11, .list ToldL11, .b Done11, .s Value11])) fun rA17 =>
 gB rA17 fun x7 =>
 bd (
 bd (dL22Alive) fun rA18 =>
 gB rA18 fun x8 =>
 ifB x8 (
 ifB x5 (
 ifB x6 (
 ifB x7 (
 bd (dL22Plain (.agg [.i .i64 SF, .i .i64 ST, .list AcceptsL, .list CommitsL, .list ToldL, .b Done, .s Value])) fun rA19 =>
 gA rA19 fun cs13 =>
 gC cs13 fun m91 msA91 =>
 gI .i64 m91 fun SF12 =>
 gC msA91 fun m92 msA92 =>
 gI .i64 m92 fun ST12 =>
 gC msA92 fun m93 msA93 =>
 gL m93 fun AcceptsL12 =>
 gC msA93 fun m94 msA94 =>
 gL m94 fun CommitsL12 =>
 gC msA94 fun m95 msA95 =>
 gL m95 fun ToldL12 =>
 gC msA95 fun m96 msA96 =>
 gB m96 fun Done12 =>
 gC msA96 fun m97 msA97 =>
 gS m97 fun Value12 =>
 gN msA97 <|
 bd (dR22Same (.agg [.i .i64 SF12, .i .i64 ST12, .list AcceptsL12, .list CommitsL12, .list ToldL12, .b Done12, .s Value12]) (.agg [.i .i64 SF2, .i .i64 ST2, .list AcceptsL2, .list CommitsL2, .list ToldL2, .b Done2, .s Value2])) fun rA20 =>
 gB rA20 fun x9 =>
 some [.b x9]) (
 some [.b false])) (
 some [.b false])) (
 some [.b false])) (
 some [.b false])) fun vs1 =>
 gC vs1 fun m98 msA98 =>
 gB m98 fun x10 =>
 gN msA98 <|
 some (.b x10))
noncomputable def dgL22LearnerTurns (g : Nat → List MV → Option MV) (a a1 : MV) : Option MV :=
 gA a fun cs =>
 gC cs fun m msA =>
 gI .i64 m fun SF =>
 gC msA fun m1 msA1 =>
 gI .i64 m1 fun ST =>
 gC msA1 fun m2 msA2 =>
 gL m2 fun AcceptsL =>
 gC msA2 fun m3 msA3 =>
 gL m3 fun CommitsL =>
 gC msA3 fun m4 msA4 =>
 gL m4 fun ToldL =>
 gC msA4 fun m5 msA5 =>
 gB m5 fun Done =>
 gC msA5 fun m6 msA6 =>
 gS m6 fun Value =>
 gN msA6 <|
 gA a1 fun cs1 =>
 gC cs1 fun m7 msA7 =>
 gI .i64 m7 fun Kind =>
 gC msA7 fun m8 msA8 =>
 gI .i64 m8 fun By =>
 gC msA8 fun m9 msA9 =>
 gI .i64 m9 fun ABy =>
 gC msA9 fun m10 msA10 =>
 gI .i64 m10 fun AView =>
 gC msA10 fun m11 msA11 =>
 gS m11 fun AValue =>
 gC msA11 fun m12 msA12 =>
 gL m12 fun P =>
 gN msA12 <|
 bd (
 bd (g 24 [(.agg [.i .i64 SF, .i .i64 ST, .list AcceptsL, .list CommitsL, .list ToldL, .b Done, .s Value])]) fun rA =>
 gB rA fun x =>
 ifB (!x) (
 some [.b true]) (
 bd (g 38 [(.list P)]) fun rA1 =>
 gB rA1 fun x1 =>
 ifB (!x1) (
 some [.b true]) (
 ifB (decide ((6100 : Int) < (AValue.length : Int))) (
 some [.b true]) (
 bd (g 31 [(.agg [.i .i64 SF, .i .i64 ST, .list AcceptsL, .list CommitsL, .list ToldL, .b Done, .s Value])]) fun rA2 =>
 gA rA2 fun cs2 =>
 gC cs2 fun m13 msA13 =>
 gI .i64 m13 fun SF1 =>
 gC msA13 fun m14 msA14 =>
 gI .i64 m14 fun ST1 =>
 gC msA14 fun m15 msA15 =>
 gL m15 fun AcceptsL1 =>
 gC msA15 fun m16 msA16 =>
 gL m16 fun CommitsL1 =>
 gC msA16 fun m17 msA17 =>
 gL m17 fun ToldL1 =>
 gC msA17 fun m18 msA18 =>
 gB m18 fun Done1 =>
 gC msA18 fun m19 msA19 =>
 gS m19 fun Value1 =>
 gN msA19 <|
 bd (g 30 [(.agg [.i .i64 SF1, .i .i64 ST1, .list AcceptsL1, .list CommitsL1, .list ToldL1, .b Done1, .s Value1])]) fun rA3 =>
 gB rA3 fun x2 =>
 some [.b (!x2)])))) fun vs =>
 gC vs fun m20 msA20 =>
 gB m20 fun x3 =>
 gN msA20 <|
 ifB x3 (
 bd (g 25 []) fun rA4 =>
 gB rA4 fun x4 =>
 some (.b x4)) (
 bd (g 31 [(.agg [.i .i64 SF, .i .i64 ST, .list AcceptsL, .list CommitsL, .list ToldL, .b Done, .s Value])]) fun rA5 =>
 gA rA5 fun cs3 =>
 gC cs3 fun m21 msA21 =>
 gI .i64 m21 fun SF2 =>
 gC msA21 fun m22 msA22 =>
 gI .i64 m22 fun ST2 =>
 gC msA22 fun m23 msA23 =>
 gL m23 fun AcceptsL2 =>
 gC msA23 fun m24 msA24 =>
 gL m24 fun CommitsL2 =>
 gC msA24 fun m25 msA25 =>
 gL m25 fun ToldL2 =>
 gC msA25 fun m26 msA26 =>
 gB m26 fun Done2 =>
 gC msA26 fun m27 msA27 =>
 gS m27 fun Value2 =>
 gN msA27 <|
 bd (g 39 [(.agg [.i .i64 SF, .i .i64 ST, .list AcceptsL, .list CommitsL, .list ToldL, .b Done, .s Value]), (.agg [.i .i64 ABy, .i .i64 AView, .s AValue])]) fun rA6 =>
 gA rA6 fun cs4 =>
 gC cs4 fun m28 msA28 =>
 gI .i64 m28 fun SF3 =>
 gC msA28 fun m29 msA29 =>
 gI .i64 m29 fun ST3 =>
 gC msA29 fun m30 msA30 =>
 gL m30 fun AcceptsL3 =>
 gC msA30 fun m31 msA31 =>
 gL m31 fun CommitsL3 =>
 gC msA31 fun m32 msA32 =>
 gL m32 fun ToldL3 =>
 gC msA32 fun m33 msA33 =>
 gB m33 fun Done3 =>
 gC msA33 fun m34 msA34 =>
 gS m34 fun Value3 =>
 gN msA34 <|
 bd (g 31 [(.agg [.i .i64 SF3, .i .i64 ST3, .list AcceptsL3, .list CommitsL3, .list ToldL3, .b Done3, .s Value3])]) fun rA7 =>
 gA rA7 fun cs5 =>
 gC cs5 fun m35 msA35 =>
 gI .i64 m35 fun SF4 =>
 gC msA35 fun m36 msA36 =>
 gI .i64 m36 fun ST4 =>
 gC msA36 fun m37 msA37 =>
 gL m37 fun AcceptsL4 =>
 gC msA37 fun m38 msA38 =>
 gL m38 fun CommitsL4 =>
 gC msA38 fun m39 msA39 =>
 gL m39 fun ToldL4 =>
 gC msA39 fun m40 msA40 =>
 gB m40 fun Done4 =>
 gC msA40 fun m41 msA41 =>
 gS m41 fun Value4 =>
 gN msA41 <|
 bd (g 40 [(.agg [.i .i64 SF2, .i .i64 ST2, .list AcceptsL2, .list CommitsL2, .list ToldL2, .b Done2, .s Value2]), (.agg [.i .i64 ABy, .i .i64 AView, .s AValue])]) fun rA8 =>
 gA rA8 fun cs6 =>
 gC cs6 fun m42 msA42 =>
 gI .i64 m42 fun SF5 =>
 gC msA42 fun m43 msA43 =>
 gI .i64 m43 fun ST5 =>
 gC msA43 fun m44 msA44 =>
 gL m44 fun AcceptsL5 =>
 gC msA44 fun m45 msA45 =>
 gL m45 fun CommitsL5 =>
 gC msA45 fun m46 msA46 =>
 gL m46 fun ToldL5 =>
 gC msA46 fun m47 msA47 =>
 gB m47 fun Done5 =>
 gC msA47 fun m48 msA48 =>
 gS m48 fun Value5 =>
 gN msA48 <|
 bd (g 33 [(.agg [.i .i64 SF4, .i .i64 ST4, .list AcceptsL4, .list CommitsL4, .list ToldL4, .b Done4, .s Value4]), (.agg [.i .i64 SF5, .i .i64 ST5, .list AcceptsL5, .list CommitsL5, .list ToldL5, .b Done5, .s Value5])]) fun rA9 =>
 gB rA9 fun x5 =>
 bd (g 41 [(.agg [.i .i64 SF, .i .i64 ST, .list AcceptsL, .list CommitsL, .list ToldL, .b Done, .s Value]), (.i .i64 By), (.list P)]) fun rA10 =>
 gA rA10 fun cs7 =>
 gC cs7 fun m49 msA49 =>
 gI .i64 m49 fun SF6 =>
 gC msA49 fun m50 msA50 =>
 gI .i64 m50 fun ST6 =>
 gC msA50 fun m51 msA51 =>
 gL m51 fun AcceptsL6 =>
 gC msA51 fun m52 msA52 =>
 gL m52 fun CommitsL6 =>
 gC msA52 fun m53 msA53 =>
 gL m53 fun ToldL6 =>
 gC msA53 fun m54 msA54 =>
 gB m54 fun Done6 =>
 gC msA54 fun m55 msA55 =>
 gS m55 fun Value6 =>
 gN msA55 <|
 bd (g 31 [(.agg [.i .i64 SF6, .i .i64 ST6, .list AcceptsL6, .list CommitsL6, .list ToldL6, .b Done6, .s Value6])]) fun rA11 =>
 gA rA11 fun cs8 =>
 gC cs8 fun m56 msA56 =>
 gI .i64 m56 fun SF7 =>
 gC msA56 fun m57 msA57 =>
 gI .i64 m57 fun ST7 =>
 gC msA57 fun m58 msA58 =>
 gL m58 fun AcceptsL7 =>
 gC msA58 fun m59 msA59 =>
 gL m59 fun CommitsL7 =>
 gC msA59 fun m60 msA60 =>
 gL m60 fun ToldL7 =>
 gC msA60 fun m61 msA61 =>
 gB m61 fun Done7 =>
 gC msA61 fun m62 msA62 =>
 gS m62 fun Value7 =>
 gN msA62 <|
 bd (g 42 [(.agg [.i .i64 SF2, .i .i64 ST2, .list AcceptsL2, .list CommitsL2, .list ToldL2, .b Done2, .s Value2]), (.i .i64 By), (.list P)]) fun rA12 =>
 gA rA12 fun cs9 =>
 gC cs9 fun m63 msA63 =>
 gI .i64 m63 fun SF8 =>
 gC msA63 fun m64 msA64 =>
 gI .i64 m64 fun ST8 =>
 gC msA64 fun m65 msA65 =>
 gL m65 fun AcceptsL8 =>
 gC msA65 fun m66 msA66 =>
 gL m66 fun CommitsL8 =>
 gC msA66 fun m67 msA67 =>
 gL m67 fun ToldL8 =>
 gC msA67 fun m68 msA68 =>
 gB m68 fun Done8 =>
 gC msA68 fun m69 msA69 =>
 gS m69 fun Value8 =>
 gN msA69 <|
 bd (g 33 [(.agg [.i .i64 SF7, .i .i64 ST7, .list AcceptsL7, .list CommitsL7, .list ToldL7, .b Done7, .s Value7]), (.agg [.i .i64 SF8, .i .i64 ST8, .list AcceptsL8, .list CommitsL8, .list ToldL8, .b Done8, .s Value8])]) fun rA13 =>
 gB rA13 fun x6 =>
 bd (g 43 [(.agg [.i .i64 SF, .i .i64 ST, .list AcceptsL, .list CommitsL, .list ToldL, .b Done, .s Value]), (.i .i64 By), (.s AValue)]) fun rA14 =>
 gA rA14 fun cs10 =>
 gC cs10 fun m70 msA70 =>
 gI .i64 m70 fun SF9 =>
 gC msA70 fun m71 msA71 =>
 gI .i64 m71 fun ST9 =>
 gC msA71 fun m72 msA72 =>
 gL m72 fun AcceptsL9 =>
 gC msA72 fun m73 msA73 =>
 gL m73 fun CommitsL9 =>
 gC msA73 fun m74 msA74 =>
 gL m74 fun ToldL9 =>
 gC msA74 fun m75 msA75 =>
 gB m75 fun Done9 =>
 gC msA75 fun m76 msA76 =>
 gS m76 fun Value9 =>
 gN msA76 <|
 bd (g 31 [(.agg [.i .i64 SF9, .i .i64 ST9, .list AcceptsL9, .list CommitsL9, .list ToldL9, .b Done9, .s Value9])]) fun rA15 =>
 gA rA15 fun cs11 =>
 gC cs11 fun m77 msA77 =>
 gI .i64 m77 fun SF10 =>
 gC msA77 fun m78 msA78 =>
 gI .i64 m78 fun ST10 =>
 gC msA78 fun m79 msA79 =>
 gL m79 fun AcceptsL10 =>
 gC msA79 fun m80 msA80 =>
 gL m80 fun CommitsL10 =>
 gC msA80 fun m81 msA81 =>
 gL m81 fun ToldL10 =>
 gC msA81 fun m82 msA82 =>
 gB m82 fun Done10 =>
 gC msA82 fun m83 msA83 =>
 gS m83 fun Value10 =>
 gN msA83 <|
 bd (g 44 [(.agg [.i .i64 SF2, .i .i64 ST2, .list AcceptsL2, .list CommitsL2, .list ToldL2, .b Done2, .s Value2]), (.i .i64 By), (.s AValue)]) fun rA16 =>
 gA rA16 fun cs12 =>
 gC cs12 fun m84 msA84 =>
 gI .i64 m84 fun SF11 =>
 gC msA84 fun m85 msA85 =>
 gI .i64 m85 fun ST11 =>
 gC msA85 fun m86 msA86 =>
 gL m86 fun AcceptsL11 =>
 gC msA86 fun m87 msA87 =>
 gL m87 fun CommitsL11 =>
 gC msA87 fun m88 msA88 =>
 gL m88 fun ToldL11 =>
 gC msA88 fun m89 msA89 =>
 gB m89 fun Done11 =>
 gC msA89 fun m90 msA90 =>
 gS m90 fun Value11 =>
 gN msA90 <|
 bd (g 33 [(.agg [.i .i64 SF10, .i .i64 ST10, .list AcceptsL10, .list CommitsL10, .list ToldL10, .b Done10, .s Value10]), (.agg [.i .i64 SF11, .i .i64 ST11, .list AcceptsL11, .list CommitsL11, .list ToldL11, .b Done11, .s Value11])]) fun rA17 =>
 gB rA17 fun x7 =>
 bd (
 bd (g 25 []) fun rA18 =>
 gB rA18 fun x8 =>
 ifB x8 (
 ifB x5 (
 ifB x6 (
 ifB x7 (
 bd (g 31 [(.agg [.i .i64 SF, .i .i64 ST, .list AcceptsL, .list CommitsL, .list ToldL, .b Done, .s Value])]) fun rA19 =>
 gA rA19 fun cs13 =>
 gC cs13 fun m91 msA91 =>
 gI .i64 m91 fun SF12 =>
 gC msA91 fun m92 msA92 =>
 gI .i64 m92 fun ST12 =>
 gC msA92 fun m93 msA93 =>
 gL m93 fun AcceptsL12 =>
 gC msA93 fun m94 msA94 =>
 gL m94 fun CommitsL12 =>
 gC msA94 fun m95 msA95 =>
 gL m95 fun ToldL12 =>
 gC msA95 fun m96 msA96 =>
 gB m96 fun Done12 =>
 gC msA96 fun m97 msA97 =>
 gS m97 fun Value12 =>
 gN msA97 <|
 bd (g 33 [(.agg [.i .i64 SF12, .i .i64 ST12, .list AcceptsL12, .list CommitsL12, .list ToldL12, .b Done12, .s Value12]), (.agg [.i .i64 SF2, .i .i64 ST2, .list AcceptsL2, .list CommitsL2, .list ToldL2, .b Done2, .s Value2])]) fun rA20 =>
 gB rA20 fun x9 =>
 some [.b x9]) (
 some [.b false])) (
 some [.b false])) (
 some [.b false])) (
 some [.b false])) fun vs1 =>
 gC vs1 fun m98 msA98 =>
 gB m98 fun x10 =>
 gN msA98 <|
 some (.b x10))
noncomputable def cgL22LearnerTurns (g : Nat → List MV → Option MV) : Ctx := { cxL22LearnerTurns with g := g }
theorem lgL22LearnerTurns (g : Nat → List MV → Option MV) (a a1 : MV) : bodyK (cgL22LearnerTurns g) [] none Try.f6 [a, a1] = dgL22LearnerTurns g a a1 := by kernel_rfl
theorem ldL22LearnerTurns (a a1 : MV) : dgL22LearnerTurns gR22Told a a1 = dL22LearnerTurns a a1 := by kernel_rfl
theorem linkL22LearnerTurns (a a1 : MV) : bodyK cxL22LearnerTurns [] none Try.f6 [a, a1] = dL22LearnerTurns a a1 := (lgL22LearnerTurns gR22Told a a1).trans (ldL22LearnerTurns a a1)
noncomputable def gL22LearnerTurns : Nat → List MV → Option MV := addG 6 (lst2 dL22LearnerTurns) gR22Told
theorem soundL22LearnerTurns : SoundG Try.prog cx gL22LearnerTurns :=
  soundR22Told.fn (c' := cxL22LearnerTurns) (caps := []) ⟨rfl, rfl, rfl, rfl, rfl, rfl, rfl, rfl⟩ rfl tab_ok eq_ok fk_ok mt_ok mix_ok Try.func6 (by kernel_rfl) (fun _ => rfl) (lst2_of linkL22LearnerTurns)
end Dn.S
