import Derived.Test.YtjblhgpbkfmkoaaDnYTab
import Derived.Test.YtjblhgpbkfmkoaaDnC
import Derived.Test.YtjblhgpbkfmkoaaDnYT
import Derived.KernelRfl
import Derived.Test.YtjblhgpbkfmkoaaProg
/-
  The functions, on plain values, and their contracts. Conditions: none.
-/
open Go Dn Go.Proofs
set_option linter.unusedVariables false
set_option linter.unusedSimpArgs false
set_option maxRecDepth 100000
namespace Dn.S
theorem tab_ok : TIok Try.prog (lookT tiTab) := tabB_ok (by kernel_rfl)
theorem eq_ok : EqOK Try.prog (lookT tiTab) := eqTabB_ok (by kernel_rfl)
theorem mix_ok : Try.prog.follows .mixedOrders = true := by kernel_rfl
def lookH : List (Nat × Hint) → Nat → Hint
  | [], _ => default
  | (k, s) :: r, t => bif Nat.beq k t then s else lookH r t
def lookL : List (Nat × List Nat) → Nat → List Nat
  | [], _ => []
  | (k, s) :: r, t => bif Nat.beq k t then s else lookL r t
def lookN : List (Nat × Nat) → Nat → Nat
  | [], _ => 0
  | (k, s) :: r, t => bif Nat.beq k t then s else lookN r t
def kk (n : Nat) : Nat := n
def gv (n : Nat) : Bool := nmem [118] n
def frs (n : Nat) : Bool := nmem [117, 118] n
def ftyOf : List (Nat × Nat) := [(117, 72), (118, 72)]
def lookF : List (Nat × FloatKind) → Nat → Option FloatKind
  | [], _ => none
  | (k, s) :: r, t => bif Nat.beq k t then some s else lookF r t
def fkTab : List (Nat × FloatKind) := [(170, .f64)]
theorem fk_ok : ∀ t k, lookF fkTab t = some k → Try.prog.underlying t = some (.float k) := by
  intro t k h
  unfold fkTab at h
  simp only [lookF] at h
  cases hb : Nat.beq 170 t with
  | true =>
    rw [hb] at h
    have ht := Nat.eq_of_beq_eq_true hb
    subst ht
    simp only [cond_true, Option.some.injEq] at h
    subst h
    exact Try.underlying170
  | false =>
  rw [hb] at h
  simp only [cond_false] at h
  cases h
def mtTab : List (Nat × (Nat × Bool)) := [(184, (186, false)), (190, (9, false))]
def cx : Ctx := ⟨lookT tiTab, kk, fun _ _ => none, gv, frs, lookN ftyOf, 0, [], [], fun _ => [], lookF fkTab, lookM mtTab, fun _ => [], fun _ => default, fun _ => default, fun _ => default⟩
theorem mt_ok : MapTys Try.prog cx := mapTabB_ok (l := mtTab) (by kernel_rfl) (fun _ _ h => h)
def tiAt (t : Nat) : TI := match lookT tiTab t with | some I => I | none => ⟨false, 0, 0, [], [], [], [], 0, []⟩
theorem tv24 : cx.tv 24 = some (tiAt 24) := by kernel_rfl
theorem tv72 : cx.tv 72 = some (tiAt 72) := by kernel_rfl
theorem hand117 {g : Nat → List MV → Option MV} (h : SoundG Try.prog cx g) : SoundG Try.prog cx (addG 117 (cloneF 3 32) g) := h.add1 (fun _ => rfl) (fun ms r hr => by
  obtain ⟨xs, rfl, rfl, h1, h2⟩ := cloneF_some hr
  exact clone_ok (P := Try.prog) (c := cx) (f := 117) (fn := Try.f117) (t := 24) (I := tiAt 24) (E := tiAt 72) (i0 := 0) (i1 := 1) (i2 := 2) (i3 := 3) (oA := opAt Try.f117 noOp 0) (oB := opAt Try.f117 noOp 1) (oC := opAt Try.f117 noOp 2) (oD := opAt Try.f117 noOp 3) (oE := opAt Try.f117 noOp 4) (oF := opAt Try.f117 noOp 5) (oG := opAt Try.f117 noOp 6) (oH := opAt Try.f117 noOp 7) tab_ok tv24 (by kernel_rfl) tv72 (Nat.le_of_ble_eq_true (by kernel_rfl)) (by kernel_rfl) (by kernel_rfl) Try.func117 (by kernel_rfl) (by kernel_rfl) (by kernel_rfl) (by kernel_rfl)
    ⟨by kernel_rfl, by kernel_rfl, by kernel_rfl⟩ ⟨by kernel_rfl, by kernel_rfl, by kernel_rfl⟩ ⟨by kernel_rfl, by kernel_rfl, by kernel_rfl⟩ ⟨by kernel_rfl, by kernel_rfl, by kernel_rfl⟩ ⟨by kernel_rfl, by kernel_rfl, by kernel_rfl⟩ ⟨by kernel_rfl, by kernel_rfl, by kernel_rfl⟩ ⟨by kernel_rfl, by kernel_rfl, by kernel_rfl⟩ ⟨by kernel_rfl, by kernel_rfl, by kernel_rfl⟩ (by rw [show (tiAt 72).size = 3 by kernel_rfl]; exact h1) (by rw [show (tiAt 72).bytes = 32 by kernel_rfl]; exact h2))
theorem ins118 : InsFn Try.prog 118 24 3 4 72 134 Try.f118 (fun k => k) (opAt Try.f118 noOp) (insTail (opAt Try.f118 noOp)) := by
  refine ⟨Try.func118, by kernel_rfl, by kernel_rfl, by kernel_rfl, by kernel_rfl, ?_, mix_ok, by kernel_rfl⟩
  exact ⟨⟨by kernel_rfl, by kernel_rfl, by kernel_rfl⟩, ⟨by kernel_rfl, by kernel_rfl, by kernel_rfl⟩, ⟨by kernel_rfl, by kernel_rfl, by kernel_rfl⟩, ⟨by kernel_rfl, by kernel_rfl, by kernel_rfl⟩, ⟨by kernel_rfl, by kernel_rfl, by kernel_rfl⟩, ⟨by kernel_rfl, by kernel_rfl, by kernel_rfl⟩, ⟨by kernel_rfl, by kernel_rfl, by kernel_rfl⟩, ⟨by kernel_rfl, by kernel_rfl, by kernel_rfl⟩, ⟨by kernel_rfl, by kernel_rfl, by kernel_rfl⟩, ⟨by kernel_rfl, by kernel_rfl, by kernel_rfl⟩, ⟨by kernel_rfl, by kernel_rfl, by kernel_rfl⟩, ⟨by kernel_rfl, by kernel_rfl, by kernel_rfl⟩, ⟨by kernel_rfl, by kernel_rfl, by kernel_rfl⟩, ⟨by kernel_rfl, by kernel_rfl, by kernel_rfl⟩, ⟨by kernel_rfl, by kernel_rfl, by kernel_rfl⟩, ⟨by kernel_rfl, by kernel_rfl, by kernel_rfl⟩, ⟨by kernel_rfl, by kernel_rfl, by kernel_rfl⟩, ⟨by kernel_rfl, by kernel_rfl, by kernel_rfl⟩, ⟨by kernel_rfl, by kernel_rfl, by kernel_rfl⟩, ⟨by kernel_rfl, by kernel_rfl, by kernel_rfl⟩, ⟨by kernel_rfl, by kernel_rfl, by kernel_rfl⟩, ⟨by kernel_rfl, by kernel_rfl, by kernel_rfl⟩, ⟨by kernel_rfl, by kernel_rfl, by kernel_rfl⟩, ⟨by kernel_rfl, by kernel_rfl, by kernel_rfl⟩, ⟨by kernel_rfl, by kernel_rfl, by kernel_rfl⟩, ⟨by kernel_rfl, by kernel_rfl, by kernel_rfl⟩, ⟨by kernel_rfl, by kernel_rfl, by kernel_rfl⟩, ⟨by kernel_rfl, by kernel_rfl, by kernel_rfl⟩, ⟨by kernel_rfl, by kernel_rfl, by kernel_rfl⟩, ⟨by kernel_rfl, by kernel_rfl, by kernel_rfl⟩, ⟨by kernel_rfl, by kernel_rfl, by kernel_rfl⟩, ⟨by kernel_rfl, by kernel_rfl, by kernel_rfl⟩, ⟨by kernel_rfl, by kernel_rfl, by kernel_rfl⟩, ⟨by kernel_rfl, by kernel_rfl, by kernel_rfl⟩, ⟨by kernel_rfl, by kernel_rfl, by kernel_rfl⟩, ⟨by kernel_rfl, by kernel_rfl, by kernel_rfl⟩, ⟨by kernel_rfl, by kernel_rfl, by kernel_rfl⟩, ⟨by kernel_rfl, by kernel_rfl, by kernel_rfl⟩, ⟨by kernel_rfl, by kernel_rfl, by kernel_rfl⟩, ⟨by kernel_rfl, by kernel_rfl, by kernel_rfl⟩, ⟨by kernel_rfl, by kernel_rfl, by kernel_rfl⟩, ⟨by kernel_rfl, by kernel_rfl, by kernel_rfl⟩, ⟨by kernel_rfl, by kernel_rfl, by kernel_rfl⟩, ⟨by kernel_rfl, by kernel_rfl, by kernel_rfl⟩, ⟨by kernel_rfl, by kernel_rfl, by kernel_rfl⟩, ⟨by kernel_rfl, by kernel_rfl, by kernel_rfl⟩, ⟨by kernel_rfl, by kernel_rfl, by kernel_rfl⟩, ⟨by kernel_rfl, by kernel_rfl, by kernel_rfl⟩, ⟨by kernel_rfl, by kernel_rfl, by kernel_rfl⟩, ⟨by kernel_rfl, by kernel_rfl, by kernel_rfl⟩, ⟨by kernel_rfl, by kernel_rfl, by kernel_rfl⟩, ⟨by kernel_rfl, by kernel_rfl, by kernel_rfl⟩, ⟨by kernel_rfl, by kernel_rfl, by kernel_rfl⟩, ⟨by kernel_rfl, by kernel_rfl, by kernel_rfl⟩, ⟨by kernel_rfl, by kernel_rfl, by kernel_rfl⟩, ⟨by kernel_rfl, by kernel_rfl, by kernel_rfl⟩, ⟨by kernel_rfl, by kernel_rfl, by kernel_rfl⟩, ⟨by kernel_rfl, by kernel_rfl, by kernel_rfl⟩, ⟨by kernel_rfl, by kernel_rfl, by kernel_rfl⟩, ⟨by kernel_rfl, by kernel_rfl, by kernel_rfl⟩, ⟨by kernel_rfl, by kernel_rfl, by kernel_rfl⟩, ⟨by kernel_rfl, by kernel_rfl, by kernel_rfl⟩, ⟨by kernel_rfl, by kernel_rfl, by kernel_rfl⟩, ⟨by kernel_rfl, by kernel_rfl, by kernel_rfl⟩, ⟨by kernel_rfl, by kernel_rfl, by kernel_rfl⟩, ⟨by kernel_rfl, by kernel_rfl, by kernel_rfl⟩, ⟨by kernel_rfl, by kernel_rfl, by kernel_rfl⟩, ⟨by kernel_rfl, by kernel_rfl, by kernel_rfl⟩, ⟨by kernel_rfl, by kernel_rfl, by kernel_rfl⟩, ⟨by kernel_rfl, by kernel_rfl, by kernel_rfl⟩, ⟨by kernel_rfl, by kernel_rfl, by kernel_rfl⟩, ⟨by kernel_rfl, by kernel_rfl, by kernel_rfl⟩, ⟨by kernel_rfl, by kernel_rfl, by kernel_rfl⟩, ⟨by kernel_rfl, by kernel_rfl, by kernel_rfl⟩, ⟨by kernel_rfl, by kernel_rfl, by kernel_rfl⟩, ⟨by kernel_rfl, by kernel_rfl, by kernel_rfl⟩, ⟨by kernel_rfl, by kernel_rfl, by kernel_rfl⟩, ⟨by kernel_rfl, by kernel_rfl, by kernel_rfl⟩, ⟨by kernel_rfl, by kernel_rfl, by kernel_rfl⟩, ⟨by kernel_rfl, by kernel_rfl, by kernel_rfl⟩, ⟨by kernel_rfl, by kernel_rfl, by kernel_rfl⟩, ⟨by kernel_rfl, by kernel_rfl, by kernel_rfl⟩, ⟨by kernel_rfl, by kernel_rfl, by kernel_rfl⟩, by kernel_rfl, by kernel_rfl⟩
theorem ov118 : ∀ args w, (callFunc 134 args).run Try.prog w = ((Extern.SlicesOverlaps.overlaps #[24, 24] #[4] args).run Try.prog w).andThen fun v w' => .ok (.value v) w' := fun args w => run_callFunc_extern Try.func134 (by kernel_rfl) (by kernel_rfl) (by kernel_rfl) (e := Extern.SlicesOverlaps.overlaps #[24, 24] #[4]) (by kernel_rfl) args w
theorem hand118 {g : Nat → List MV → Option MV} (h : SoundG Try.prog cx g) : SoundG Try.prog cx (addG 118 (insertF 32) g) := h.add1 (fun _ => rfl) (fun ms r hr => by
  obtain ⟨xs, ys, i, rfl, rfl, h1, h2, h3⟩ := insertF_some hr
  exact insert_ok (P := Try.prog) (c := cx) (I := tiAt 24) (E := tiAt 72) ins118 tab_ok tv24 (by kernel_rfl) tv72 (Nat.le_of_ble_eq_true (by kernel_rfl)) (by kernel_rfl) (by kernel_rfl) (by kernel_rfl) (by kernel_rfl) ov118 h1 h2 (by rw [show (tiAt 72).bytes = 32 by kernel_rfl]; exact h3))
noncomputable def H117 : Nat → List MV → Option MV := addG 117 (cloneF 3 32) (fun _ _ => none)
theorem soundH117 : SoundG Try.prog cx H117 := hand117 (SoundG.none _ _)
noncomputable def H118 : Nat → List MV → Option MV := addG 118 (insertF 32) H117
theorem soundH118 : SoundG Try.prog cx H118 := hand118 soundH117

noncomputable def cxL21Votes : Ctx := ⟨lookT tiTab, kk, H118, gv, frs, lookN ftyOf, 21, [], [], lookL [], lookF fkTab, lookM mtTab, lookL [], lookH [(4, ⟨[0, 3], [], [], [(0, [(20, .sc (.k .b))])], []⟩)], lookH [], lookH [(2, ⟨[0], [], [(3, .sc (.k (.i .i64)))], [(1, [(2, .sc (.k .b))]), (2, [])], []⟩)]⟩
noncomputable def dL21Votes (lA : MV) : Option MV :=
 gL lA fun lA1 =>
 bd (Loop (fun msA =>
 gC msA fun m msA1 =>
 gI .i64 m fun i =>
 gN msA1 <|
 lenN lA1 fun len =>
 ifB (decide (i < (len : Int))) (
 bd (
 ifB (decide (i = 40)) (
 some [.b true]) (
 idx lA1 i fun y =>
 gA y fun cs =>
 gC cs fun m1 msA2 =>
 gI .i64 m1 fun By =>
 gC msA2 fun m2 msA3 =>
 gI .i64 m2 fun View =>
 gC msA3 fun m3 msA4 =>
 gS m3 fun Value =>
 gN msA4 <|
 some [.b (decide ((6100 : Int) < (Value.length : Int)))])) fun vs =>
 gC vs fun m4 msA5 =>
 gB m4 fun x =>
 gN msA5 <|
 ifB x (
 some (.inr (1, [.b false]))) (
 some (.inl [.i .i64 (IntKind.wrap .i64 (i + 1))]))) (
 some (.inr (2, [])))) [.i .i64 0]) fun p =>
 ifB (Nat.beq p.1 2) (
 gN p.2 <|
 some (.b true)) (
 chk (Nat.beq p.1 1) <|
 gC p.2 fun m5 msA6 =>
 gB m5 fun x1 =>
 gN msA6 <|
 some (.b x1))
theorem linkL21Votes (lA : MV) : bodyK cxL21Votes [] none Try.f60 [lA] = dL21Votes lA := by kernel_rfl
noncomputable def gL21Votes : Nat → List MV → Option MV := addG 60 (lst1 dL21Votes) H118
theorem soundL21Votes : SoundG Try.prog cx gL21Votes :=
  soundH118.fn (c' := cxL21Votes) (caps := []) ⟨rfl, rfl, rfl, rfl, rfl, rfl, rfl⟩ rfl tab_ok eq_ok fk_ok mt_ok mix_ok Try.func60 (by kernel_rfl) (fun _ => rfl) (lst1_of linkL21Votes)

noncomputable def cxL21Few : Ctx := ⟨lookT tiTab, kk, gL21Votes, gv, frs, lookN ftyOf, 18, [], [], lookL [], lookF fkTab, lookM mtTab, lookL [], lookH [(1, ⟨[1], [], [], [(0, [(2, .sc (.k .b))])], []⟩)], lookH [], lookH []⟩
noncomputable def dL21Few (a : MV) : Option MV :=
 gA a fun cs =>
 gC cs fun m msA =>
 gI .i64 m fun SF =>
 gC msA fun m1 msA1 =>
 gI .i64 m1 fun ST =>
 gC msA1 fun m2 msA2 =>
 gI .i64 m2 fun Me =>
 gC msA2 fun m3 msA3 =>
 gI .i64 m3 fun View =>
 gC msA3 fun m4 msA4 =>
 gB m4 fun Has =>
 gC msA4 fun m5 msA5 =>
 gI .i64 m5 fun At =>
 gC msA5 fun m6 msA6 =>
 gS m6 fun Value =>
 gC msA6 fun m7 msA7 =>
 gL m7 fun Proof =>
 gC msA7 fun m8 msA8 =>
 gL m8 fun VotesL =>
 gN msA8 <|
 bd (
 ifB (decide ((Value.length : Int) ≤ 6100)) (
 bd (dL21Votes (.list Proof)) fun rA =>
 gB rA fun x =>
 ifB x (
 bd (dL21Votes (.list VotesL)) fun rA1 =>
 gB rA1 fun x1 =>
 some [.b x1]) (
 some [.b false])) (
 some [.b false])) fun vs =>
 gC vs fun m9 msA9 =>
 gB m9 fun x2 =>
 gN msA9 <|
 some (.b x2)
theorem linkL21Few (a : MV) : bodyK cxL21Few [] none Try.f11 [a] = dL21Few a := by kernel_rfl
noncomputable def gL21Few : Nat → List MV → Option MV := addG 11 (lst1 dL21Few) gL21Votes
theorem soundL21Few : SoundG Try.prog cx gL21Few :=
  soundL21Votes.fn (c' := cxL21Few) (caps := []) ⟨rfl, rfl, rfl, rfl, rfl, rfl, rfl⟩ rfl tab_ok eq_ok fk_ok mt_ok mix_ok Try.func11 (by kernel_rfl) (fun _ => rfl) (lst1_of linkL21Few)

noncomputable def cxSizeSizePair : Ctx := ⟨lookT tiTab, kk, gL21Few, gv, frs, lookN ftyOf, 10, [], [], lookL [], lookF fkTab, lookM mtTab, lookL [], lookH [], lookH [], lookH []⟩
noncomputable def dSizeSizePair (sA : MV) : Option MV :=
 gA sA fun cs =>
 gC cs fun m msA =>
 gI .i64 m fun F =>
 gC msA fun m1 msA1 =>
 gI .i64 m1 fun T =>
 gN msA1 <|
 some (.raw (.complex .f64 (FloatKind.nearest .f64 F) (FloatKind.nearest .f64 T)))
theorem linkSizeSizePair (sA : MV) : bodyK cxSizeSizePair [] none Try.f111 [sA] = dSizeSizePair sA := by kernel_rfl
noncomputable def gSizeSizePair : Nat → List MV → Option MV := addG 111 (lst1 dSizeSizePair) gL21Few
theorem soundSizeSizePair : SoundG Try.prog cx gSizeSizePair :=
  soundL21Few.fn (c' := cxSizeSizePair) (caps := []) ⟨rfl, rfl, rfl, rfl, rfl, rfl, rfl⟩ rfl tab_ok eq_ok fk_ok mt_ok mix_ok Try.func111 (by kernel_rfl) (fun _ => rfl) (lst1_of linkSizeSizePair)

noncomputable def cxSizeSizeOf : Ctx := ⟨lookT tiTab, kk, gSizeSizePair, gv, frs, lookN ftyOf, 21, [], [], lookL [], lookF fkTab, lookM mtTab, lookL [], lookH [], lookH [], lookH []⟩
noncomputable def dSizeSizeOf (sA times : MV) : Option MV :=
 gA sA fun cs =>
 gC cs fun m msA =>
 gI .i64 m fun F =>
 gC msA fun m1 msA1 =>
 gI .i64 m1 fun T =>
 gN msA1 <|
 gR times fun times1 =>
 bd (dSizeSizePair (.agg [.i .i64 F, .i .i64 T])) fun rA =>
 gR rA fun x =>
 gCx x fun re im =>
 gCx times1 fun re1 im1 =>
 bd (FloatKind.f64.format.mul re re1) fun f =>
 gCx x fun re2 im2 =>
 gCx times1 fun re3 im3 =>
 bd (FloatKind.f64.format.mul im2 im3) fun f1 =>
 bd (FloatKind.f64.format.add f f1) fun f2 =>
 bd ((FloatKind.decode .f64 f2).toInt .zero) fun n =>
 chk (decide (IntKind.min .i64 ≤ n ∧ n ≤ IntKind.max .i64)) <|
 some (.i .i64 (IntKind.wrap .i64 (n + 1)))
theorem linkSizeSizeOf (sA times : MV) : bodyK cxSizeSizeOf [] none Try.f91 [sA, times] = dSizeSizeOf sA times := by kernel_rfl
noncomputable def gSizeSizeOf : Nat → List MV → Option MV := addG 91 (lst2 dSizeSizeOf) gSizeSizePair
theorem soundSizeSizeOf : SoundG Try.prog cx gSizeSizeOf :=
  soundSizeSizePair.fn (c' := cxSizeSizeOf) (caps := []) ⟨rfl, rfl, rfl, rfl, rfl, rfl, rfl⟩ rfl tab_ok eq_ok fk_ok mt_ok mix_ok Try.func91 (by kernel_rfl) (fun _ => rfl) (lst2_of linkSizeSizeOf)

noncomputable def cxSizeN : Ctx := ⟨lookT tiTab, kk, gSizeSizeOf, gv, frs, lookN ftyOf, 5, [], [], lookL [], lookF fkTab, lookM mtTab, lookL [], lookH [], lookH [], lookH []⟩
noncomputable def dSizeN (sA : MV) : Option MV :=
 gA sA fun cs =>
 gC cs fun m msA =>
 gI .i64 m fun F =>
 gC msA fun m1 msA1 =>
 gI .i64 m1 fun T =>
 gN msA1 <|
 bd (dSizeSizeOf (.agg [.i .i64 F, .i .i64 T]) (.raw (.complex .f64 4613937818241073152 4611686018427387904))) fun rA =>
 gI .i64 rA fun x =>
 some (.i .i64 x)
theorem linkSizeN (sA : MV) : bodyK cxSizeN [] none Try.f45 [sA] = dSizeN sA := by kernel_rfl
noncomputable def gSizeN : Nat → List MV → Option MV := addG 45 (lst1 dSizeN) gSizeSizeOf
theorem soundSizeN : SoundG Try.prog cx gSizeN :=
  soundSizeSizeOf.fn (c' := cxSizeN) (caps := []) ⟨rfl, rfl, rfl, rfl, rfl, rfl, rfl⟩ rfl tab_ok eq_ok fk_ok mt_ok mix_ok Try.func45 (by kernel_rfl) (fun _ => rfl) (lst1_of linkSizeN)

noncomputable def cxSizeRight : Ctx := ⟨lookT tiTab, kk, gSizeN, gv, frs, lookN ftyOf, 23, [], [], lookL [], lookF fkTab, lookM mtTab, lookL [], lookH [(1, ⟨[1], [], [], [(0, [(2, .sc (.k .b))])], []⟩)], lookH [], lookH []⟩
noncomputable def dSizeRight (sA : MV) : Option MV :=
 gA sA fun cs =>
 gC cs fun m msA =>
 gI .i64 m fun F =>
 gC msA fun m1 msA1 =>
 gI .i64 m1 fun T =>
 gN msA1 <|
 bd (
 ifB (decide ((1 : Int) ≤ F)) (
 ifB (decide (F ≤ 5)) (
 ifB (decide ((0 : Int) ≤ T)) (
 some [.b (decide (T ≤ F))]) (
 some [.b false])) (
 some [.b false])) (
 some [.b false])) fun vs =>
 gC vs fun m2 msA2 =>
 gB m2 fun x =>
 gN msA2 <|
 some (.b x)
theorem linkSizeRight (sA : MV) : bodyK cxSizeRight [] none Try.f61 [sA] = dSizeRight sA := by kernel_rfl
noncomputable def gSizeRight : Nat → List MV → Option MV := addG 61 (lst1 dSizeRight) gSizeN
theorem soundSizeRight : SoundG Try.prog cx gSizeRight :=
  soundSizeN.fn (c' := cxSizeRight) (caps := []) ⟨rfl, rfl, rfl, rfl, rfl, rfl, rfl⟩ rfl tab_ok eq_ok fk_ok mt_ok mix_ok Try.func61 (by kernel_rfl) (fun _ => rfl) (lst1_of linkSizeRight)

noncomputable def cxAcceptorNew : Ctx := ⟨lookT tiTab, kk, gSizeRight, gv, frs, lookN ftyOf, 23, [], [], lookL [], lookF fkTab, lookM mtTab, lookL [], lookH [(1, ⟨[1, 2, 4], [], [], [(0, [(18, .sc (.k .b))])], []⟩)], lookH [], lookH []⟩
noncomputable def dAcceptorNew (sA me : MV) : Option MV :=
 gA sA fun cs =>
 gC cs fun m msA =>
 gI .i64 m fun F =>
 gC msA fun m1 msA1 =>
 gI .i64 m1 fun T =>
 gN msA1 <|
 gI .i64 me fun me1 =>
 bd (
 bd (dSizeRight (.agg [.i .i64 F, .i .i64 T])) fun rA =>
 gB rA fun x =>
 ifB (!x) (
 some [.b true]) (
 ifB (decide (me1 < 0)) (
 some [.b true]) (
 bd (dSizeN (.agg [.i .i64 F, .i .i64 T])) fun rA1 =>
 gI .i64 rA1 fun x1 =>
 some [.b (decide (x1 ≤ me1))]))) fun vs =>
 gC vs fun m2 msA2 =>
 gB m2 fun x2 =>
 gN msA2 <|
 ifB x2 (
 some (.tup [.agg [.i .i64 0, .i .i64 0, .i .i64 0, .i .i64 0, .b false, .i .i64 0, .s ([] : List UInt8), .list ([] : List MV), .list ([] : List MV)], .i .i64 1])) (
 some (.tup [.agg [.i .i64 F, .i .i64 T, .i .i64 me1, .i .i64 0, .b false, .i .i64 0, .s ([] : List UInt8), .list ([] : List MV), .list ([] : List MV)], .i .i64 0]))
theorem linkAcceptorNew (sA me : MV) : bodyK cxAcceptorNew [] none Try.f13 [sA, me] = dAcceptorNew sA me := by kernel_rfl
noncomputable def gAcceptorNew : Nat → List MV → Option MV := addG 13 (lst2 dAcceptorNew) gSizeRight
theorem soundAcceptorNew : SoundG Try.prog cx gAcceptorNew :=
  soundSizeRight.fn (c' := cxAcceptorNew) (caps := []) ⟨rfl, rfl, rfl, rfl, rfl, rfl, rfl⟩ rfl tab_ok eq_ok fk_ok mt_ok mix_ok Try.func13 (by kernel_rfl) (fun _ => rfl) (lst2_of linkAcceptorNew)

noncomputable def cxAcceptorTell : Ctx := ⟨lookT tiTab, kk, gAcceptorNew, gv, frs, lookN ftyOf, 16, [], [], lookL [], lookF fkTab, lookM mtTab, lookL [], lookH [], lookH [], lookH []⟩
noncomputable def dAcceptorTell (a : MV) : Option MV :=
 gA a fun cs =>
 gC cs fun m msA =>
 gI .i64 m fun SF =>
 gC msA fun m1 msA1 =>
 gI .i64 m1 fun ST =>
 gC msA1 fun m2 msA2 =>
 gI .i64 m2 fun Me =>
 gC msA2 fun m3 msA3 =>
 gI .i64 m3 fun View =>
 gC msA3 fun m4 msA4 =>
 gB m4 fun Has =>
 gC msA4 fun m5 msA5 =>
 gI .i64 m5 fun At =>
 gC msA5 fun m6 msA6 =>
 gS m6 fun Value =>
 gC msA6 fun m7 msA7 =>
 gL m7 fun Proof =>
 gC msA7 fun m8 msA8 =>
 gL m8 fun VotesL =>
 gN msA8 <|
 some (.agg [.i .i64 Me, .i .i64 View, .b Has, .i .i64 At, .s Value, .list Proof])
theorem linkAcceptorTell (a : MV) : bodyK cxAcceptorTell [] none Try.f22 [a] = dAcceptorTell a := by kernel_rfl
noncomputable def gAcceptorTell : Nat → List MV → Option MV := addG 22 (lst1 dAcceptorTell) gAcceptorNew
theorem soundAcceptorTell : SoundG Try.prog cx gAcceptorTell :=
  soundAcceptorNew.fn (c' := cxAcceptorTell) (caps := []) ⟨rfl, rfl, rfl, rfl, rfl, rfl, rfl⟩ rfl tab_ok eq_ok fk_ok mt_ok mix_ok Try.func22 (by kernel_rfl) (fun _ => rfl) (lst1_of linkAcceptorTell)

noncomputable def cxAcceptorEnter : Ctx := ⟨lookT tiTab, kk, gAcceptorTell, gv, frs, lookN ftyOf, 24, [], [], lookL [], lookF fkTab, lookM mtTab, lookL [(4, [0, 1, 2, 3, 4, 5])], lookH [(1, ⟨[1, 2, 4, 5], [], [], [(0, [(14, .sc (.k .b))])], []⟩)], lookH [], lookH []⟩
noncomputable def dAcceptorEnter (a view : MV) : Option MV :=
 gA a fun cs =>
 gC cs fun m msA =>
 gI .i64 m fun SF =>
 gC msA fun m1 msA1 =>
 gI .i64 m1 fun ST =>
 gC msA1 fun m2 msA2 =>
 gI .i64 m2 fun Me =>
 gC msA2 fun m3 msA3 =>
 gI .i64 m3 fun View =>
 gC msA3 fun m4 msA4 =>
 gB m4 fun Has =>
 gC msA4 fun m5 msA5 =>
 gI .i64 m5 fun At =>
 gC msA5 fun m6 msA6 =>
 gS m6 fun Value =>
 gC msA6 fun m7 msA7 =>
 gL m7 fun Proof =>
 gC msA7 fun m8 msA8 =>
 gL m8 fun VotesL =>
 gN msA8 <|
 gI .i64 view fun view1 =>
 bd (
 ifB (decide (view1 ≤ View)) (
 some [.b true]) (
 some [.b (decide ((100000 : Int) < view1))])) fun vs =>
 gC vs fun m9 msA9 =>
 gB m9 fun x =>
 gN msA9 <|
 ifB x (
 some (.tup [.agg [.i .i64 SF, .i .i64 ST, .i .i64 Me, .i .i64 View, .b Has, .i .i64 At, .s Value, .list Proof, .list VotesL], .agg [.i .i64 0, .i .i64 0, .b false, .i .i64 0, .s ([] : List UInt8), .list ([] : List MV)], .b false])) (
 bd (dAcceptorTell (.agg [.i .i64 SF, .i .i64 ST, .i .i64 Me, .i .i64 view1, .b Has, .i .i64 At, .s Value, .list Proof, .list ([] : List MV)])) fun rA =>
 gA rA fun cs1 =>
 gC cs1 fun m10 msA10 =>
 gI .i64 m10 fun By =>
 gC msA10 fun m11 msA11 =>
 gI .i64 m11 fun For =>
 gC msA11 fun m12 msA12 =>
 gB m12 fun Has1 =>
 gC msA12 fun m13 msA13 =>
 gI .i64 m13 fun View1 =>
 gC msA13 fun m14 msA14 =>
 gS m14 fun Value1 =>
 gC msA14 fun m15 msA15 =>
 gL m15 fun Proof1 =>
 gN msA15 <|
 some (.tup [.agg [.i .i64 SF, .i .i64 ST, .i .i64 Me, .i .i64 view1, .b Has, .i .i64 At, .s Value, .list Proof, .list ([] : List MV)], .agg [.i .i64 By, .i .i64 For, .b Has1, .i .i64 View1, .s Value1, .list Proof1], .b true]))
theorem linkAcceptorEnter (a view : MV) : bodyK cxAcceptorEnter [] none Try.f52 [a, view] = dAcceptorEnter a view := by kernel_rfl
noncomputable def gAcceptorEnter : Nat → List MV → Option MV := addG 52 (lst2 dAcceptorEnter) gAcceptorTell
theorem soundAcceptorEnter : SoundG Try.prog cx gAcceptorEnter :=
  soundAcceptorTell.fn (c' := cxAcceptorEnter) (caps := []) ⟨rfl, rfl, rfl, rfl, rfl, rfl, rfl⟩ rfl tab_ok eq_ok fk_ok mt_ok mix_ok Try.func52 (by kernel_rfl) (fun _ => rfl) (lst2_of linkAcceptorEnter)

noncomputable def cxSizeMost : Ctx := ⟨lookT tiTab, kk, gAcceptorEnter, gv, frs, lookN ftyOf, 5, [], [], lookL [], lookF fkTab, lookM mtTab, lookL [], lookH [], lookH [], lookH []⟩
noncomputable def dSizeMost (sA : MV) : Option MV :=
 gA sA fun cs =>
 gC cs fun m msA =>
 gI .i64 m fun F =>
 gC msA fun m1 msA1 =>
 gI .i64 m1 fun T =>
 gN msA1 <|
 bd (dSizeSizeOf (.agg [.i .i64 F, .i .i64 T]) (.raw (.complex .f64 4611686018427387904 4611686018427387904))) fun rA =>
 gI .i64 rA fun x =>
 some (.i .i64 x)
theorem linkSizeMost (sA : MV) : bodyK cxSizeMost [] none Try.f129 [sA] = dSizeMost sA := by kernel_rfl
noncomputable def gSizeMost : Nat → List MV → Option MV := addG 129 (lst1 dSizeMost) gAcceptorEnter
theorem soundSizeMost : SoundG Try.prog cx gSizeMost :=
  soundAcceptorEnter.fn (c' := cxSizeMost) (caps := []) ⟨rfl, rfl, rfl, rfl, rfl, rfl, rfl⟩ rfl tab_ok eq_ok fk_ok mt_ok mix_ok Try.func129 (by kernel_rfl) (fun _ => rfl) (lst1_of linkSizeMost)

noncomputable def cxSizeProof : Ctx := ⟨lookT tiTab, kk, gSizeMost, gv, frs, lookN ftyOf, 5, [], [], lookL [], lookF fkTab, lookM mtTab, lookL [], lookH [], lookH [], lookH []⟩
noncomputable def dSizeProof (sA : MV) : Option MV :=
 gA sA fun cs =>
 gC cs fun m msA =>
 gI .i64 m fun F =>
 gC msA fun m1 msA1 =>
 gI .i64 m1 fun T =>
 gN msA1 <|
 bd (dSizeSizeOf (.agg [.i .i64 F, .i .i64 T]) (.raw (.complex .f64 4611686018427387904 4607182418800017408))) fun rA =>
 gI .i64 rA fun x =>
 some (.i .i64 x)
theorem linkSizeProof (sA : MV) : bodyK cxSizeProof [] none Try.f46 [sA] = dSizeProof sA := by kernel_rfl
noncomputable def gSizeProof : Nat → List MV → Option MV := addG 46 (lst1 dSizeProof) gSizeMost
theorem soundSizeProof : SoundG Try.prog cx gSizeProof :=
  soundSizeMost.fn (c' := cxSizeProof) (caps := []) ⟨rfl, rfl, rfl, rfl, rfl, rfl, rfl⟩ rfl tab_ok eq_ok fk_ok mt_ok mix_ok Try.func46 (by kernel_rfl) (fun _ => rfl) (lst1_of linkSizeProof)

noncomputable def cxTallyMay : Ctx := ⟨lookT tiTab, kk, gSizeProof, gv, frs, lookN ftyOf, 22, [], [], lookL [], lookF fkTab, lookM mtTab, lookL [], lookH [(1, ⟨[1], [], [], [(0, [(2, .sc (.k .b))])], []⟩)], lookH [], lookH []⟩
noncomputable def dTallyMay (a : MV) : Option MV :=
 gA a fun cs =>
 gC cs fun m msA =>
 gI .i64 m fun By =>
 gC msA fun m1 msA1 =>
 gI .i64 m1 fun View =>
 gC msA1 fun m2 msA2 =>
 gS m2 fun Value =>
 gN msA2 <|
 bd (
 ifB (decide ((0 : Int) ≤ By)) (
 ifB (decide ((0 : Int) ≤ View)) (
 ifB (decide (View ≤ 100000)) (
 some [.b (decide ((Value.length : Int) ≤ 6000))]) (
 some [.b false])) (
 some [.b false])) (
 some [.b false])) fun vs =>
 gC vs fun m3 msA3 =>
 gB m3 fun x =>
 gN msA3 <|
 some (.b x)
theorem linkTallyMay (a : MV) : bodyK cxTallyMay [] none Try.f96 [a] = dTallyMay a := by kernel_rfl
noncomputable def gTallyMay : Nat → List MV → Option MV := addG 96 (lst1 dTallyMay) gSizeProof
theorem soundTallyMay : SoundG Try.prog cx gTallyMay :=
  soundSizeProof.fn (c' := cxTallyMay) (caps := []) ⟨rfl, rfl, rfl, rfl, rfl, rfl, rfl⟩ rfl tab_ok eq_ok fk_ok mt_ok mix_ok Try.func96 (by kernel_rfl) (fun _ => rfl) (lst1_of linkTallyMay)

noncomputable def cxTallyRight : Ctx := ⟨lookT tiTab, kk, gTallyMay, gv, frs, lookN ftyOf, 33, [], [], lookL [], lookF fkTab, lookM mtTab, lookL [(4, [0, 1, 2, 3, 4, 5, 6, 7, 8, 9, 10, 11, 12, 13, 14, 15, 16, 17, 18])], lookH [(4, ⟨[1, 3, 4, 6, 7, 8], [], [], [(0, [(31, .sc (.k .b))])], []⟩)], lookH [], lookH [(2, ⟨[1, 6, 7], [], [(8, .sc (.k (.i .i64)))], [(1, [(2, .sc (.k .b))]), (2, [])], []⟩)]⟩
noncomputable def dTallyRight (t : MV) : Option MV :=
 gA t fun cs =>
 gC cs fun m msA =>
 gL m fun L =>
 gN msA <|
 lenN L fun len =>
 bd (Loop (fun msA1 =>
 gC msA1 fun m1 msA2 =>
 gI .i64 m1 fun x =>
 gN msA2 <|
 ifB (decide (x < (len : Int))) (
 idx L x fun y =>
 gA y fun cs1 =>
 gC cs1 fun m2 msA3 =>
 gI .i64 m2 fun By =>
 gC msA3 fun m3 msA4 =>
 gI .i64 m3 fun View =>
 gC msA4 fun m4 msA5 =>
 gS m4 fun Value =>
 gN msA5 <|
 bd (
 bd (dTallyMay (.agg [.i .i64 By, .i .i64 View, .s Value])) fun rA =>
 gB rA fun x1 =>
 ifB (!x1) (
 some [.b true]) (
 ifB (decide ((0 : Int) < x)) (
 idx L (IntKind.wrap .i64 (x - 1)) fun y1 =>
 gA y1 fun cs2 =>
 gC cs2 fun m5 msA6 =>
 gI .i64 m5 fun By1 =>
 gC msA6 fun m6 msA7 =>
 gI .i64 m6 fun View1 =>
 gC msA7 fun m7 msA8 =>
 gS m7 fun Value1 =>
 gN msA8 <|
 some [.b (decide (By ≤ By1))]) (
 some [.b false]))) fun vs =>
 gC vs fun m8 msA9 =>
 gB m8 fun x2 =>
 gN msA9 <|
 ifB x2 (
 some (.inr (1, [.b false]))) (
 some (.inl [.i .i64 (IntKind.wrap .i64 (x + 1))]))) (
 some (.inr (2, [])))) [.i .i64 0]) fun p =>
 ifB (Nat.beq p.1 2) (
 gN p.2 <|
 some (.b true)) (
 chk (Nat.beq p.1 1) <|
 gC p.2 fun m9 msA10 =>
 gB m9 fun x3 =>
 gN msA10 <|
 some (.b x3))
theorem linkTallyRight (t : MV) : bodyK cxTallyRight [] none Try.f66 [t] = dTallyRight t := by kernel_rfl
noncomputable def gTallyRight : Nat → List MV → Option MV := addG 66 (lst1 dTallyRight) gTallyMay
theorem soundTallyRight : SoundG Try.prog cx gTallyRight :=
  soundTallyMay.fn (c' := cxTallyRight) (caps := []) ⟨rfl, rfl, rfl, rfl, rfl, rfl, rfl⟩ rfl tab_ok eq_ok fk_ok mt_ok mix_ok Try.func66 (by kernel_rfl) (fun _ => rfl) (lst1_of linkTallyRight)

noncomputable def cxTallyVoters : Ctx := ⟨lookT tiTab, kk, gTallyRight, gv, frs, lookN ftyOf, 33, [29], [], lookL [], lookF fkTab, lookM mtTab, lookL [], lookH [(5, ⟨[1, 2, 7, 9, 11, 12, 13], [30], [], [(0, [(26, .sc (.k .b))])], [29, 30]⟩)], lookH [(6, ⟨[1, 2, 9, 11, 12, 13], [], [], [(0, [(7, .sc (.own 30 72 true))])], [29, 30]⟩)], lookH [(3, ⟨[1, 2, 11, 12], [], [(7, .sc (.own 30 72 true)), (13, .sc (.k (.i .i64)))], [(2, [(7, .sc (.own 30 72 true))])], [29, 30]⟩)]⟩
noncomputable def dTallyVoters (t view value : MV) : Option MV :=
 gA t fun cs =>
 gC cs fun m msA =>
 gL m fun L =>
 gN msA <|
 gI .i64 view fun view1 =>
 gS value fun value1 =>
 lenN L fun len =>
 bd (Loop (fun msA1 =>
 gC msA1 fun m1 msA2 =>
 gL m1 fun out =>
 gC msA2 fun m2 msA3 =>
 gI .i64 m2 fun x =>
 gN msA3 <|
 ifB (decide (x < (len : Int))) (
 idx L x fun y =>
 gA y fun cs1 =>
 gC cs1 fun m3 msA4 =>
 gI .i64 m3 fun By =>
 gC msA4 fun m4 msA5 =>
 gI .i64 m4 fun View =>
 gC msA5 fun m5 msA6 =>
 gS m5 fun Value =>
 gN msA6 <|
 bd (
 ifB (decide (View = view1)) (
 some [.b (decide (Value = value1))]) (
 some [.b false])) fun vs =>
 gC vs fun m6 msA7 =>
 gB m6 fun x1 =>
 gN msA7 <|
 bd (
 ifB x1 (
 lenN out fun len1 =>
 lenN ([.agg [.i .i64 By, .i .i64 View, .s Value]] : List MV) fun len2 =>
 chk (decide ((len1 + len2) * 32 ≤ 2 ^ 46)) <|
 some (0, [.list (out ++ ([.agg [.i .i64 By, .i .i64 View, .s Value]] : List MV))])) (
 some (0, [.list out]))) fun p1 =>
 chk (Nat.beq p1.1 0) <|
 gC p1.2 fun m7 msA8 =>
 gL m7 fun out1 =>
 gN msA8 <|
 some (.inl [.list out1, .i .i64 (IntKind.wrap .i64 (x + 1))])) (
 some (.inr (2, [.list out])))) [.list ([] : List MV), .i .i64 0]) fun p =>
 chk (Nat.beq p.1 2) <|
 gC p.2 fun m8 msA9 =>
 gL m8 fun out2 =>
 gN msA9 <|
 some (.list out2)
theorem linkTallyVoters (t view value : MV) : bodyK cxTallyVoters [] none Try.f119 [t, view, value] = dTallyVoters t view value := by kernel_rfl
noncomputable def gTallyVoters : Nat → List MV → Option MV := addG 119 (lst3 dTallyVoters) gTallyRight
theorem soundTallyVoters : SoundG Try.prog cx gTallyVoters :=
  soundTallyRight.fn (c' := cxTallyVoters) (caps := []) ⟨rfl, rfl, rfl, rfl, rfl, rfl, rfl⟩ rfl tab_ok eq_ok fk_ok mt_ok mix_ok Try.func119 (by kernel_rfl) (fun _ => rfl) (lst3_of linkTallyVoters)

noncomputable def cxTallyCount : Ctx := ⟨lookT tiTab, kk, gTallyVoters, gv, frs, lookN ftyOf, 12, [], [], lookL [], lookF fkTab, lookM mtTab, lookL [], lookH [], lookH [], lookH []⟩
noncomputable def dTallyCount (t view value : MV) : Option MV :=
 gA t fun cs =>
 gC cs fun m msA =>
 gL m fun L =>
 gN msA <|
 gI .i64 view fun view1 =>
 gS value fun value1 =>
 bd (dTallyVoters (.agg [.list L]) (.i .i64 view1) (.s value1)) fun rA =>
 gL rA fun x =>
 lenN x fun len =>
 some (.i .i64 (len : Int))
theorem linkTallyCount (t view value : MV) : bodyK cxTallyCount [] none Try.f110 [t, view, value] = dTallyCount t view value := by kernel_rfl
noncomputable def gTallyCount : Nat → List MV → Option MV := addG 110 (lst3 dTallyCount) gTallyVoters
theorem soundTallyCount : SoundG Try.prog cx gTallyCount :=
  soundTallyVoters.fn (c' := cxTallyCount) (caps := []) ⟨rfl, rfl, rfl, rfl, rfl, rfl, rfl⟩ rfl tab_ok eq_ok fk_ok mt_ok mix_ok Try.func110 (by kernel_rfl) (fun _ => rfl) (lst3_of linkTallyCount)

noncomputable def cxProofRight : Ctx := ⟨lookT tiTab, kk, gTallyCount, gv, frs, lookN ftyOf, 47, [], [], lookL [], lookF fkTab, lookM mtTab, lookL [(3, [0, 1, 2, 3, 4, 5, 6, 7, 8, 9, 10, 11, 12, 13, 14, 15, 16, 17, 18, 19, 20, 22, 23, 21, 24, 25, 26])], lookH [(3, ⟨[1, 2], [], [], [(0, [(4, .sc (.k .b))])], []⟩), (1, ⟨[1, 2], [], [], [(0, [(20, .sc (.k .b))])], []⟩)], lookH [], lookH []⟩
noncomputable def dProofRight (sA p : MV) : Option MV :=
 gA sA fun cs =>
 gC cs fun m msA =>
 gI .i64 m fun F =>
 gC msA fun m1 msA1 =>
 gI .i64 m1 fun T =>
 gN msA1 <|
 gL p fun p1 =>
 bd (
 bd (dSizeRight (.agg [.i .i64 F, .i .i64 T])) fun rA =>
 gB rA fun x =>
 ifB (!x) (
 some [.b true]) (
 lenN p1 fun len =>
 bd (dSizeProof (.agg [.i .i64 F, .i .i64 T])) fun rA1 =>
 gI .i64 rA1 fun x1 =>
 ifB (!decide ((len : Int) = x1)) (
 some [.b true]) (
 bd (dTallyRight (.agg [.list p1])) fun rA2 =>
 gB rA2 fun x2 =>
 some [.b (!x2)]))) fun vs =>
 gC vs fun m2 msA2 =>
 gB m2 fun x3 =>
 gN msA2 <|
 ifB x3 (
 some (.b false)) (
 bd (
 lenN p1 fun len1 =>
 idx p1 (IntKind.wrap .i64 ((len1 : Int) - 1)) fun y =>
 gA y fun cs1 =>
 gC cs1 fun m3 msA3 =>
 gI .i64 m3 fun By =>
 gC msA3 fun m4 msA4 =>
 gI .i64 m4 fun View =>
 gC msA4 fun m5 msA5 =>
 gS m5 fun Value =>
 gN msA5 <|
 bd (dSizeN (.agg [.i .i64 F, .i .i64 T])) fun rA3 =>
 gI .i64 rA3 fun x4 =>
 ifB (decide (By < x4)) (
 idx p1 0 fun y1 =>
 gA y1 fun cs2 =>
 gC cs2 fun m6 msA6 =>
 gI .i64 m6 fun By1 =>
 gC msA6 fun m7 msA7 =>
 gI .i64 m7 fun View1 =>
 gC msA7 fun m8 msA8 =>
 gS m8 fun Value1 =>
 gN msA8 <|
 idx p1 0 fun y2 =>
 gA y2 fun cs3 =>
 gC cs3 fun m9 msA9 =>
 gI .i64 m9 fun By2 =>
 gC msA9 fun m10 msA10 =>
 gI .i64 m10 fun View2 =>
 gC msA10 fun m11 msA11 =>
 gS m11 fun Value2 =>
 gN msA11 <|
 lenN p1 fun len2 =>
 bd (dTallyCount (.agg [.list p1]) (.i .i64 View1) (.s Value2)) fun rA4 =>
 gI .i64 rA4 fun x5 =>
 some [.b (decide (x5 = (len2 : Int)))]) (
 some [.b false])) fun vs1 =>
 gC vs1 fun m12 msA12 =>
 gB m12 fun x6 =>
 gN msA12 <|
 some (.b x6))
theorem linkProofRight (sA p : MV) : bodyK cxProofRight [] none Try.f88 [sA, p] = dProofRight sA p := by kernel_rfl
noncomputable def gProofRight : Nat → List MV → Option MV := addG 88 (lst2 dProofRight) gTallyCount
theorem soundProofRight : SoundG Try.prog cx gProofRight :=
  soundTallyCount.fn (c' := cxProofRight) (caps := []) ⟨rfl, rfl, rfl, rfl, rfl, rfl, rfl⟩ rfl tab_ok eq_ok fk_ok mt_ok mix_ok Try.func88 (by kernel_rfl) (fun _ => rfl) (lst2_of linkProofRight)

noncomputable def cxProofOf : Ctx := ⟨lookT tiTab, kk, gProofRight, gv, frs, lookN ftyOf, 16, [], [], lookL [], lookF fkTab, lookM mtTab, lookL [(3, [0, 1, 2, 3, 4, 5, 6, 7, 8, 9, 10])], lookH [], lookH [], lookH []⟩
noncomputable def dProofOf (p : MV) : Option MV :=
 gL p fun p1 =>
 lenN p1 fun len =>
 ifB (decide ((len : Int) = 0)) (
 some (.tup [.i .i64 (-1), .s ([] : List UInt8), .b false])) (
 idx p1 0 fun y =>
 gA y fun cs =>
 gC cs fun m msA =>
 gI .i64 m fun By =>
 gC msA fun m1 msA1 =>
 gI .i64 m1 fun View =>
 gC msA1 fun m2 msA2 =>
 gS m2 fun Value =>
 gN msA2 <|
 idx p1 0 fun y1 =>
 gA y1 fun cs1 =>
 gC cs1 fun m3 msA3 =>
 gI .i64 m3 fun By1 =>
 gC msA3 fun m4 msA4 =>
 gI .i64 m4 fun View1 =>
 gC msA4 fun m5 msA5 =>
 gS m5 fun Value1 =>
 gN msA5 <|
 some (.tup [.i .i64 View, .s Value1, .b true]))
theorem linkProofOf (p : MV) : bodyK cxProofOf [] none Try.f80 [p] = dProofOf p := by kernel_rfl
noncomputable def gProofOf : Nat → List MV → Option MV := addG 80 (lst1 dProofOf) gProofRight
theorem soundProofOf : SoundG Try.prog cx gProofOf :=
  soundProofRight.fn (c' := cxProofOf) (caps := []) ⟨rfl, rfl, rfl, rfl, rfl, rfl, rfl⟩ rfl tab_ok eq_ok fk_ok mt_ok mix_ok Try.func80 (by kernel_rfl) (fun _ => rfl) (lst1_of linkProofOf)

noncomputable def cxReportProved : Ctx := ⟨lookT tiTab, kk, gProofOf, gv, frs, lookN ftyOf, 16, [], [], lookL [], lookF fkTab, lookM mtTab, lookL [], lookH [], lookH [], lookH []⟩
noncomputable def dReportProved (rA : MV) : Option MV :=
 gA rA fun cs =>
 gC cs fun m msA =>
 gI .i64 m fun By =>
 gC msA fun m1 msA1 =>
 gI .i64 m1 fun For =>
 gC msA1 fun m2 msA2 =>
 gB m2 fun Has =>
 gC msA2 fun m3 msA3 =>
 gI .i64 m3 fun View =>
 gC msA3 fun m4 msA4 =>
 gS m4 fun Value =>
 gC msA4 fun m5 msA5 =>
 gL m5 fun Proof =>
 gN msA5 <|
 bd (dProofOf (.list Proof)) fun rA1 =>
 gT rA1 fun vs =>
 gC vs fun m6 msA6 =>
 gI .i64 m6 fun x =>
 gC msA6 fun m7 msA7 =>
 gS m7 fun x1 =>
 gC msA7 fun m8 msA8 =>
 gB m8 fun x2 =>
 gN msA8 <|
 ifB (!x2) (
 some (.i .i64 (-1))) (
 some (.i .i64 x))
theorem linkReportProved (rA : MV) : bodyK cxReportProved [] none Try.f131 [rA] = dReportProved rA := by kernel_rfl
noncomputable def gReportProved : Nat → List MV → Option MV := addG 131 (lst1 dReportProved) gProofOf
theorem soundReportProved : SoundG Try.prog cx gReportProved :=
  soundProofOf.fn (c' := cxReportProved) (caps := []) ⟨rfl, rfl, rfl, rfl, rfl, rfl, rfl⟩ rfl tab_ok eq_ok fk_ok mt_ok mix_ok Try.func131 (by kernel_rfl) (fun _ => rfl) (lst1_of linkReportProved)

noncomputable def cxReportMay : Ctx := ⟨lookT tiTab, kk, gReportProved, gv, frs, lookN ftyOf, 83, [], [], lookL [], lookF fkTab, lookM mtTab, lookL [(1, [0, 1, 2, 3, 4, 5, 6, 7, 8, 9, 10, 11, 12, 13, 14, 15, 16, 17, 18, 19, 20, 21, 22, 23, 24, 25]), (7, [0, 1, 2, 3, 4, 5, 6, 7, 8, 9, 10, 12, 13, 11, 14, 15, 16, 17])], lookH [(7, ⟨[2, 3], [], [], [(0, [(4, .sc (.k .b))])], []⟩), (5, ⟨[2, 3], [], [], [(0, [(45, .sc (.k .b))])], []⟩), (3, ⟨[2, 3], [], [], [(0, [(31, .sc (.k .b))])], []⟩), (1, ⟨[2, 3], [], [], [(0, [(5, .sc (.k .b))])], []⟩)], lookH [], lookH []⟩
noncomputable def dReportMay (a a1 : MV) : Option MV :=
 gA a fun cs =>
 gC cs fun m msA =>
 gI .i64 m fun F =>
 gC msA fun m1 msA1 =>
 gI .i64 m1 fun T =>
 gN msA1 <|
 gA a1 fun cs1 =>
 gC cs1 fun m2 msA2 =>
 gI .i64 m2 fun By =>
 gC msA2 fun m3 msA3 =>
 gI .i64 m3 fun For =>
 gC msA3 fun m4 msA4 =>
 gB m4 fun Has =>
 gC msA4 fun m5 msA5 =>
 gI .i64 m5 fun View =>
 gC msA5 fun m6 msA6 =>
 gS m6 fun Value =>
 gC msA6 fun m7 msA7 =>
 gL m7 fun Proof =>
 gN msA7 <|
 bd (
 bd (dSizeRight (.agg [.i .i64 F, .i .i64 T])) fun rA =>
 gB rA fun x =>
 ifB (!x) (
 some [.b true]) (
 ifB (decide (By < 0)) (
 some [.b true]) (
 bd (dSizeN (.agg [.i .i64 F, .i .i64 T])) fun rA1 =>
 gI .i64 rA1 fun x1 =>
 ifB (decide (x1 ≤ By)) (
 some [.b true]) (
 ifB (decide (For < 1)) (
 some [.b true]) (
 some [.b (decide ((100000 : Int) < For))]))))) fun vs =>
 gC vs fun m8 msA8 =>
 gB m8 fun x2 =>
 gN msA8 <|
 ifB x2 (
 some (.b false)) (
 bd (
 ifB (!Has) (
 ifB (!decide (View = 0)) (
 some [.b true]) (
 some [.b (!decide (Value = ([] : List UInt8)))])) (
 some [.b false])) fun vs1 =>
 gC vs1 fun m9 msA9 =>
 gB m9 fun x3 =>
 gN msA9 <|
 ifB x3 (
 some (.b false)) (
 bd (
 ifB Has (
 ifB (decide (View < 0)) (
 some [.b true]) (
 ifB (decide (For ≤ View)) (
 some [.b true]) (
 some [.b (decide ((6000 : Int) < (Value.length : Int)))]))) (
 some [.b false])) fun vs2 =>
 gC vs2 fun m10 msA10 =>
 gB m10 fun x4 =>
 gN msA10 <|
 ifB x4 (
 some (.b false)) (
 bd (
 lenN Proof fun len =>
 ifB (decide ((len : Int) = 0)) (
 some [.b true]) (
 bd (dProofRight (.agg [.i .i64 F, .i .i64 T]) (.list Proof)) fun rA2 =>
 gB rA2 fun x5 =>
 ifB x5 (
 bd (dReportProved (.agg [.i .i64 By, .i .i64 For, .b Has, .i .i64 View, .s Value, .list Proof])) fun rA3 =>
 gI .i64 rA3 fun x6 =>
 some [.b (decide (x6 < For))]) (
 some [.b false]))) fun vs3 =>
 gC vs3 fun m11 msA11 =>
 gB m11 fun x7 =>
 gN msA11 <|
 some (.b x7))))
theorem linkReportMay (a a1 : MV) : bodyK cxReportMay [] none Try.f130 [a, a1] = dReportMay a a1 := by kernel_rfl
noncomputable def gReportMay : Nat → List MV → Option MV := addG 130 (lst2 dReportMay) gReportProved
theorem soundReportMay : SoundG Try.prog cx gReportMay :=
  soundReportProved.fn (c' := cxReportMay) (caps := []) ⟨rfl, rfl, rfl, rfl, rfl, rfl, rfl⟩ rfl tab_ok eq_ok fk_ok mt_ok mix_ok Try.func130 (by kernel_rfl) (fun _ => rfl) (lst2_of linkReportMay)

noncomputable def cxReportRight : Ctx := ⟨lookT tiTab, kk, gReportMay, gv, frs, lookN ftyOf, 45, [], [], lookL [], lookF fkTab, lookM mtTab, lookL [], lookH [(7, ⟨[1, 3, 7, 9, 20, 21, 22], [], [], [(0, [(41, .sc (.k .b))])], []⟩), (1, ⟨[1, 2, 3], [], [], [(0, [(19, .sc (.k .b))])], []⟩)], lookH [], lookH [(5, ⟨[1, 3, 20, 21], [], [(7, .sc (.k (.i .i64))), (22, .sc (.k (.i .i64)))], [(1, [(6, .sc (.k .b))]), (2, [])], []⟩)]⟩
noncomputable def dReportRight (sA view lA : MV) : Option MV :=
 gA sA fun cs =>
 gC cs fun m msA =>
 gI .i64 m fun F =>
 gC msA fun m1 msA1 =>
 gI .i64 m1 fun T =>
 gN msA1 <|
 gI .i64 view fun view1 =>
 gL lA fun lA1 =>
 bd (
 bd (dSizeRight (.agg [.i .i64 F, .i .i64 T])) fun rA =>
 gB rA fun x =>
 ifB (!x) (
 some [.b true]) (
 lenN lA1 fun len =>
 bd (dSizeMost (.agg [.i .i64 F, .i .i64 T])) fun rA1 =>
 gI .i64 rA1 fun x1 =>
 some [.b (!decide ((len : Int) = x1))])) fun vs =>
 gC vs fun m2 msA2 =>
 gB m2 fun x2 =>
 gN msA2 <|
 ifB x2 (
 some (.b false)) (
 lenN lA1 fun len1 =>
 bd (Loop (fun msA3 =>
 gC msA3 fun m3 msA4 =>
 gI .i64 m3 fun last =>
 gC msA4 fun m4 msA5 =>
 gI .i64 m4 fun x3 =>
 gN msA5 <|
 ifB (decide (x3 < (len1 : Int))) (
 idx lA1 x3 fun y =>
 gA y fun cs1 =>
 gC cs1 fun m5 msA6 =>
 gI .i64 m5 fun By =>
 gC msA6 fun m6 msA7 =>
 gI .i64 m6 fun For =>
 gC msA7 fun m7 msA8 =>
 gB m7 fun Has =>
 gC msA8 fun m8 msA9 =>
 gI .i64 m8 fun View =>
 gC msA9 fun m9 msA10 =>
 gS m9 fun Value =>
 gC msA10 fun m10 msA11 =>
 gL m10 fun Proof =>
 gN msA11 <|
 bd (
 bd (dReportMay (.agg [.i .i64 F, .i .i64 T]) (.agg [.i .i64 By, .i .i64 For, .b Has, .i .i64 View, .s Value, .list Proof])) fun rA2 =>
 gB rA2 fun x4 =>
 ifB (!x4) (
 some [.b true]) (
 ifB (!decide (For = view1)) (
 some [.b true]) (
 some [.b (decide (By ≤ last))]))) fun vs1 =>
 gC vs1 fun m11 msA12 =>
 gB m11 fun x5 =>
 gN msA12 <|
 ifB x5 (
 some (.inr (1, [.b false]))) (
 some (.inl [.i .i64 By, .i .i64 (IntKind.wrap .i64 (x3 + 1))]))) (
 some (.inr (2, [])))) [.i .i64 (-1), .i .i64 0]) fun p =>
 ifB (Nat.beq p.1 2) (
 gN p.2 <|
 some (.b true)) (
 chk (Nat.beq p.1 1) <|
 gC p.2 fun m12 msA13 =>
 gB m12 fun x6 =>
 gN msA13 <|
 some (.b x6)))
theorem linkReportRight (sA view lA : MV) : bodyK cxReportRight [] none Try.f112 [sA, view, lA] = dReportRight sA view lA := by kernel_rfl
noncomputable def gReportRight : Nat → List MV → Option MV := addG 112 (lst3 dReportRight) gReportMay
theorem soundReportRight : SoundG Try.prog cx gReportRight :=
  soundReportMay.fn (c' := cxReportRight) (caps := []) ⟨rfl, rfl, rfl, rfl, rfl, rfl, rfl⟩ rfl tab_ok eq_ok fk_ok mt_ok mix_ok Try.func112 (by kernel_rfl) (fun _ => rfl) (lst3_of linkReportRight)

noncomputable def cxSizeVouch : Ctx := ⟨lookT tiTab, kk, gReportRight, gv, frs, lookN ftyOf, 5, [], [], lookL [], lookF fkTab, lookM mtTab, lookL [], lookH [], lookH [], lookH []⟩
noncomputable def dSizeVouch (sA : MV) : Option MV :=
 gA sA fun cs =>
 gC cs fun m msA =>
 gI .i64 m fun F =>
 gC msA fun m1 msA1 =>
 gI .i64 m1 fun T =>
 gN msA1 <|
 bd (dSizeSizeOf (.agg [.i .i64 F, .i .i64 T]) (.raw (.complex .f64 4607182418800017408 4607182418800017408))) fun rA =>
 gI .i64 rA fun x =>
 some (.i .i64 x)
theorem linkSizeVouch (sA : MV) : bodyK cxSizeVouch [] none Try.f132 [sA] = dSizeVouch sA := by kernel_rfl
noncomputable def gSizeVouch : Nat → List MV → Option MV := addG 132 (lst1 dSizeVouch) gReportRight
theorem soundSizeVouch : SoundG Try.prog cx gSizeVouch :=
  soundReportRight.fn (c' := cxSizeVouch) (caps := []) ⟨rfl, rfl, rfl, rfl, rfl, rfl, rfl⟩ rfl tab_ok eq_ok fk_ok mt_ok mix_ok Try.func132 (by kernel_rfl) (fun _ => rfl) (lst1_of linkSizeVouch)

noncomputable def cxReportBinds : Ctx := ⟨lookT tiTab, kk, gSizeVouch, gv, frs, lookN ftyOf, 70, [], [], lookL [], lookF fkTab, lookM mtTab, lookL [(7, [0, 1, 2, 3, 4, 5, 6, 7])], lookH [(13, ⟨[2, 6, 7, 11, 13, 35, 36, 37], [], [], [(0, [(48, .sc (.k .b))])], []⟩)], lookH [(14, ⟨[2, 6, 7, 13, 35, 36, 37], [], [], [(0, [(11, .mp ⟨false, [.s], false⟩)])], []⟩), (7, ⟨[1, 2, 9, 10, 16, 17, 18], [], [], [(0, [(6, .sc (.k (.i .i64))), (7, .sc (.k .s))])], []⟩)], lookH [(17, ⟨[2, 6, 7, 56], [], [], [(1, [(4, .sc (.k .s)), (5, .sc (.k .b))]), (6, [])], []⟩), (11, ⟨[2, 6, 7, 35, 36], [], [(11, .mp ⟨false, [.s], false⟩), (37, .sc (.k (.i .i64)))], [(4, [(11, .mp ⟨false, [.s], false⟩)])], []⟩), (3, ⟨[1, 2, 16, 17], [], [(6, .sc (.k (.i .i64))), (7, .sc (.k .s)), (18, .sc (.k (.i .i64)))], [(2, [(6, .sc (.k (.i .i64))), (7, .sc (.k .s))])], []⟩)]⟩
noncomputable def dReportBinds (a a1 : MV) : Option MV :=
 gA a fun cs =>
 gC cs fun m msA =>
 gI .i64 m fun F =>
 gC msA fun m1 msA1 =>
 gI .i64 m1 fun T =>
 gN msA1 <|
 gL a1 fun a1N1 =>
 lenN a1N1 fun len =>
 bd (Loop (fun msA2 =>
 gC msA2 fun m2 msA3 =>
 gI .i64 m2 fun x =>
 gC msA3 fun m3 msA4 =>
 gS m3 fun x1 =>
 gC msA4 fun m4 msA5 =>
 gI .i64 m4 fun x2 =>
 gN msA5 <|
 ifB (decide (x2 < (len : Int))) (
 idx a1N1 x2 fun y =>
 gA y fun cs1 =>
 gC cs1 fun m5 msA6 =>
 gI .i64 m5 fun By =>
 gC msA6 fun m6 msA7 =>
 gI .i64 m6 fun For =>
 gC msA7 fun m7 msA8 =>
 gB m7 fun Has =>
 gC msA8 fun m8 msA9 =>
 gI .i64 m8 fun View =>
 gC msA9 fun m9 msA10 =>
 gS m9 fun Value =>
 gC msA10 fun m10 msA11 =>
 gL m10 fun Proof =>
 gN msA11 <|
 bd (dReportProved (.agg [.i .i64 By, .i .i64 For, .b Has, .i .i64 View, .s Value, .list Proof])) fun rA =>
 gI .i64 rA fun x3 =>
 bd (
 ifB (decide (x < x3)) (
 idx Proof 0 fun y1 =>
 gA y1 fun cs2 =>
 gC cs2 fun m11 msA12 =>
 gI .i64 m11 fun By1 =>
 gC msA12 fun m12 msA13 =>
 gI .i64 m12 fun View1 =>
 gC msA13 fun m13 msA14 =>
 gS m13 fun Value1 =>
 gN msA14 <|
 some (0, [.i .i64 x3, .s Value1])) (
 some (0, [.i .i64 x, .s x1]))) fun p1 =>
 chk (Nat.beq p1.1 0) <|
 gC p1.2 fun m14 msA15 =>
 gI .i64 m14 fun x4 =>
 gC msA15 fun m15 msA16 =>
 gS m15 fun x5 =>
 gN msA16 <|
 some (.inl [.i .i64 x4, .s x5, .i .i64 (IntKind.wrap .i64 (x2 + 1))])) (
 some (.inr (2, [.i .i64 x, .s x1])))) [.i .i64 (-1), .s ([] : List UInt8), .i .i64 0]) fun p =>
 chk (Nat.beq p.1 2) <|
 gC p.2 fun m16 msA17 =>
 gI .i64 m16 fun x6 =>
 gC msA17 fun m17 msA18 =>
 gS m17 fun x7 =>
 gN msA18 <|
 lenN a1N1 fun len1 =>
 bd (Loop (fun msA19 =>
 gC msA19 fun m18 msA20 =>
 gL m18 fun es =>
 gC msA20 fun m19 msA21 =>
 gI .i64 m19 fun x8 =>
 gN msA21 <|
 ifB (decide (x8 < (len1 : Int))) (
 idx a1N1 x8 fun y2 =>
 gA y2 fun cs3 =>
 gC cs3 fun m20 msA22 =>
 gI .i64 m20 fun By2 =>
 gC msA22 fun m21 msA23 =>
 gI .i64 m21 fun For1 =>
 gC msA23 fun m22 msA24 =>
 gB m22 fun Has1 =>
 gC msA24 fun m23 msA25 =>
 gI .i64 m23 fun View2 =>
 gC msA25 fun m24 msA26 =>
 gS m24 fun Value2 =>
 gC msA26 fun m25 msA27 =>
 gL m25 fun Proof1 =>
 gN msA27 <|
 bd (
 ifB Has1 (
 some [.b (decide (x6 < View2))]) (
 some [.b false])) fun vs =>
 gC vs fun m26 msA28 =>
 gB m26 fun x9 =>
 gN msA28 <|
 bd (
 ifB x9 (
 some (0, [.list (mset (ment es ([.s Value2] : List MV) (.i .i64 0)) (midx es ([.s Value2] : List MV)) (.i .i64 (IntKind.wrap .i64 ((mgetI es ([.s Value2] : List MV)) + 1))))])) (
 some (0, [.list es]))) fun p3 =>
 chk (Nat.beq p3.1 0) <|
 gC p3.2 fun m27 msA29 =>
 gL m27 fun es1 =>
 gN msA29 <|
 some (.inl [.list es1, .i .i64 (IntKind.wrap .i64 (x8 + 1))])) (
 some (.inr (4, [.list es])))) [.list ([] : List MV), .i .i64 0]) fun p2 =>
 chk (Nat.beq p2.1 4) <|
 gC p2.2 fun m28 msA30 =>
 gL m28 fun es2 =>
 gN msA30 <|
 none
theorem linkReportBinds (a a1 : MV) : bodyK cxReportBinds [] none Try.f113 [a, a1] = dReportBinds a a1 := by kernel_rfl
noncomputable def gReportBinds : Nat → List MV → Option MV := addG 113 (lst2 dReportBinds) gSizeVouch
theorem soundReportBinds : SoundG Try.prog cx gReportBinds :=
  soundSizeVouch.fn (c' := cxReportBinds) (caps := []) ⟨rfl, rfl, rfl, rfl, rfl, rfl, rfl⟩ rfl tab_ok eq_ok fk_ok mt_ok mix_ok Try.func113 (by kernel_rfl) (fun _ => rfl) (lst2_of linkReportBinds)

noncomputable def cxReportVouches : Ctx := ⟨lookT tiTab, kk, gReportBinds, gv, frs, lookN ftyOf, 29, [], [], lookL [], lookF fkTab, lookM mtTab, lookL [], lookH [(4, ⟨[3, 9, 10], [], [], [(0, [(8, .sc (.k .b))])], []⟩)], lookH [], lookH []⟩
noncomputable def dReportVouches (sA view lA value : MV) : Option MV :=
 gA sA fun cs =>
 gC cs fun m msA =>
 gI .i64 m fun F =>
 gC msA fun m1 msA1 =>
 gI .i64 m1 fun T =>
 gN msA1 <|
 gI .i64 view fun view1 =>
 gL lA fun lA1 =>
 gS value fun value1 =>
 bd (dReportRight (.agg [.i .i64 F, .i .i64 T]) (.i .i64 view1) (.list lA1)) fun rA =>
 gB rA fun x =>
 ifB (!x) (
 some (.b false)) (
 bd (dReportBinds (.agg [.i .i64 F, .i .i64 T]) (.list lA1)) fun rA1 =>
 gT rA1 fun vs =>
 gC vs fun m2 msA2 =>
 gS m2 fun x1 =>
 gC msA2 fun m3 msA3 =>
 gB m3 fun x2 =>
 gN msA3 <|
 bd (
 ifB (!x2) (
 some [.b true]) (
 some [.b (decide (x1 = value1))])) fun vs1 =>
 gC vs1 fun m4 msA4 =>
 gB m4 fun x3 =>
 gN msA4 <|
 some (.b x3))
theorem linkReportVouches (sA view lA value : MV) : bodyK cxReportVouches [] none Try.f93 [sA, view, lA, value] = dReportVouches sA view lA value := by kernel_rfl
noncomputable def gReportVouches : Nat → List MV → Option MV := addG 93 (lst4 dReportVouches) gReportBinds
theorem soundReportVouches : SoundG Try.prog cx gReportVouches :=
  soundReportBinds.fn (c' := cxReportVouches) (caps := []) ⟨rfl, rfl, rfl, rfl, rfl, rfl, rfl⟩ rfl tab_ok eq_ok fk_ok mt_ok mix_ok Try.func93 (by kernel_rfl) (fun _ => rfl) (lst4_of linkReportVouches)

noncomputable def cxAcceptorPropose : Ctx := ⟨lookT tiTab, kk, gReportVouches, gv, frs, lookN ftyOf, 62, [], [58], lookL [(7, [4])], lookF fkTab, lookM mtTab, lookL [(7, [0, 1, 2, 3, 4, 5, 6, 7, 8])], lookH [(3, ⟨[1, 2, 3, 4, 8, 9], [], [], [(0, [(33, .sc (.k .b))])], []⟩), (1, ⟨[1, 2, 3, 4, 8, 9], [], [], [(0, [(11, .sc (.k .b))])], []⟩)], lookH [(4, ⟨[1, 2, 3, 4], [], [], [(0, [(8, .box [.k (.i .i64), .k (.i .i64), .k (.i .i64), .k (.i .i64), .k .b, .k (.i .i64), .k .s, .k .l, .k .l]), (9, .box [.k (.i .i64), .k (.i .i64), .k .s])]), (1, [(8, .box [.k (.i .i64), .k (.i .i64), .k (.i .i64), .k (.i .i64), .k .b, .k (.i .i64), .k .s, .k .l, .k .l]), (9, .box [.k (.i .i64), .k (.i .i64), .k .s]), (10, .sc (.k .b))])], []⟩)], lookH []⟩
noncomputable def dAcceptorPropose (a view value cert : MV) : Option MV :=
 gA a fun cs =>
 gC cs fun m msA =>
 gI .i64 m fun SF =>
 gC msA fun m1 msA1 =>
 gI .i64 m1 fun ST =>
 gC msA1 fun m2 msA2 =>
 gI .i64 m2 fun Me =>
 gC msA2 fun m3 msA3 =>
 gI .i64 m3 fun View =>
 gC msA3 fun m4 msA4 =>
 gB m4 fun Has =>
 gC msA4 fun m5 msA5 =>
 gI .i64 m5 fun At =>
 gC msA5 fun m6 msA6 =>
 gS m6 fun Value =>
 gC msA6 fun m7 msA7 =>
 gL m7 fun Proof =>
 gC msA7 fun m8 msA8 =>
 gL m8 fun VotesL =>
 gN msA8 <|
 gI .i64 view fun view1 =>
 gS value fun value1 =>
 gL cert fun cert1 =>
 bd (
 ifB (!decide (view1 = View)) (
 some [.b true]) (
 ifB Has (
 ifB (decide (At = view1)) (
 some [.b true]) (
 some [.b (decide ((6000 : Int) < (value1.length : Int)))])) (
 some [.b (decide ((6000 : Int) < (value1.length : Int)))]))) fun vs =>
 gC vs fun m9 msA9 =>
 gB m9 fun x =>
 gN msA9 <|
 ifB x (
 some (.tup [.agg [.i .i64 SF, .i .i64 ST, .i .i64 Me, .i .i64 View, .b Has, .i .i64 At, .s Value, .list Proof, .list VotesL], .agg [.i .i64 0, .i .i64 0, .s ([] : List UInt8)], .b false])) (
 bd (
 ifB (decide (view1 = 0)) (
 lenN cert1 fun len =>
 some [.b (decide ((len : Int) = 0))]) (
 some [.b false])) fun vs1 =>
 gC vs1 fun m10 msA10 =>
 gB m10 fun x1 =>
 gN msA10 <|
 bd (
 ifB x1 (
 some (0, [.i .i64 0, .i .i64 0, .i .i64 0, .i .i64 0, .b false, .i .i64 0, .s ([] : List UInt8), .list ([] : List MV), .list ([] : List MV), .i .i64 0, .i .i64 0, .s ([] : List UInt8)])) (
 bd (dReportVouches (.agg [.i .i64 SF, .i .i64 ST]) (.i .i64 view1) (.list cert1) (.s value1)) fun rA =>
 gB rA fun x2 =>
 ifB (!x2) (
 some (1, [.i .i64 SF, .i .i64 ST, .i .i64 Me, .i .i64 View, .b Has, .i .i64 At, .s Value, .list Proof, .list VotesL, .i .i64 0, .i .i64 0, .s ([] : List UInt8), .b false])) (
 some (0, [.i .i64 0, .i .i64 0, .i .i64 0, .i .i64 0, .b false, .i .i64 0, .s ([] : List UInt8), .list ([] : List MV), .list ([] : List MV), .i .i64 0, .i .i64 0, .s ([] : List UInt8)])))) fun p =>
 ifB (Nat.beq p.1 1) (
 gC p.2 fun m11 msA11 =>
 gI .i64 m11 fun x3 =>
 gC msA11 fun m12 msA12 =>
 gI .i64 m12 fun x4 =>
 gC msA12 fun m13 msA13 =>
 gI .i64 m13 fun x5 =>
 gC msA13 fun m14 msA14 =>
 gI .i64 m14 fun x6 =>
 gC msA14 fun m15 msA15 =>
 gB m15 fun x7 =>
 gC msA15 fun m16 msA16 =>
 gI .i64 m16 fun x8 =>
 gC msA16 fun m17 msA17 =>
 gS m17 fun x9 =>
 gC msA17 fun m18 msA18 =>
 gL m18 fun x10 =>
 gC msA18 fun m19 msA19 =>
 gL m19 fun x11 =>
 gC msA19 fun m20 msA20 =>
 gI .i64 m20 fun x12 =>
 gC msA20 fun m21 msA21 =>
 gI .i64 m21 fun x13 =>
 gC msA21 fun m22 msA22 =>
 gS m22 fun x14 =>
 gC msA22 fun m23 msA23 =>
 gB m23 fun x15 =>
 gN msA23 <|
 some (.tup [.agg [.i .i64 x3, .i .i64 x4, .i .i64 x5, .i .i64 x6, .b x7, .i .i64 x8, .s x9, .list x10, .list x11], .agg [.i .i64 x12, .i .i64 x13, .s x14], .b x15])) (
 chk (Nat.beq p.1 0) <|
 gC p.2 fun m24 msA24 =>
 gI .i64 m24 fun x16 =>
 gC msA24 fun m25 msA25 =>
 gI .i64 m25 fun x17 =>
 gC msA25 fun m26 msA26 =>
 gI .i64 m26 fun x18 =>
 gC msA26 fun m27 msA27 =>
 gI .i64 m27 fun x19 =>
 gC msA27 fun m28 msA28 =>
 gB m28 fun x20 =>
 gC msA28 fun m29 msA29 =>
 gI .i64 m29 fun x21 =>
 gC msA29 fun m30 msA30 =>
 gS m30 fun x22 =>
 gC msA30 fun m31 msA31 =>
 gL m31 fun x23 =>
 gC msA31 fun m32 msA32 =>
 gL m32 fun x24 =>
 gC msA32 fun m33 msA33 =>
 gI .i64 m33 fun x25 =>
 gC msA33 fun m34 msA34 =>
 gI .i64 m34 fun x26 =>
 gC msA34 fun m35 msA35 =>
 gS m35 fun x27 =>
 gN msA35 <|
 some (.tup [.agg [.i .i64 SF, .i .i64 ST, .i .i64 Me, .i .i64 View, .b true, .i .i64 view1, .s value1, .list Proof, .list VotesL], .agg [.i .i64 Me, .i .i64 view1, .s value1], .b true])))
theorem linkAcceptorPropose (a view value cert : MV) : bodyK cxAcceptorPropose [] none Try.f54 [a, view, value, cert] = dAcceptorPropose a view value cert := by kernel_rfl
noncomputable def gAcceptorPropose : Nat → List MV → Option MV := addG 54 (lst4 dAcceptorPropose) gReportVouches
theorem soundAcceptorPropose : SoundG Try.prog cx gAcceptorPropose :=
  soundReportVouches.fn (c' := cxAcceptorPropose) (caps := []) ⟨rfl, rfl, rfl, rfl, rfl, rfl, rfl⟩ rfl tab_ok eq_ok fk_ok mt_ok mix_ok Try.func54 (by kernel_rfl) (fun _ => rfl) (lst4_of linkAcceptorPropose)

noncomputable def cxL21Alive : Ctx := ⟨lookT tiTab, kk, gAcceptorPropose, gv, frs, lookN ftyOf, 71, [], [], lookL [], lookF fkTab, lookM mtTab, lookL [], lookH [(5, ⟨[2, 3, 4, 7, 8, 9, 10], [], [], [(0, [(0, .sc (.k .b))])], []⟩)], lookH [], lookH []⟩
noncomputable def dL21Alive : Option MV :=
 bd (dAcceptorNew (.agg [.i .i64 1, .i .i64 0]) (.i .i64 2)) fun rA =>
 gT rA fun vs =>
 gC vs fun m msA =>
 gA m fun cs =>
 gC cs fun m1 msA1 =>
 gI .i64 m1 fun SF =>
 gC msA1 fun m2 msA2 =>
 gI .i64 m2 fun ST =>
 gC msA2 fun m3 msA3 =>
 gI .i64 m3 fun Me =>
 gC msA3 fun m4 msA4 =>
 gI .i64 m4 fun View =>
 gC msA4 fun m5 msA5 =>
 gB m5 fun Has =>
 gC msA5 fun m6 msA6 =>
 gI .i64 m6 fun At =>
 gC msA6 fun m7 msA7 =>
 gS m7 fun Value =>
 gC msA7 fun m8 msA8 =>
 gL m8 fun Proof =>
 gC msA8 fun m9 msA9 =>
 gL m9 fun VotesL =>
 gN msA9 <|
 gC msA fun m10 msA10 =>
 gI .i64 m10 fun x =>
 gN msA10 <|
 bd (dAcceptorPropose (.agg [.i .i64 SF, .i .i64 ST, .i .i64 Me, .i .i64 View, .b Has, .i .i64 At, .s Value, .list Proof, .list VotesL]) (.i .i64 0) (.s ([120] : List UInt8)) (.list ([] : List MV))) fun rA1 =>
 gT rA1 fun vs1 =>
 gC vs1 fun m11 msA11 =>
 gA m11 fun cs1 =>
 gC cs1 fun m12 msA12 =>
 gI .i64 m12 fun SF1 =>
 gC msA12 fun m13 msA13 =>
 gI .i64 m13 fun ST1 =>
 gC msA13 fun m14 msA14 =>
 gI .i64 m14 fun Me1 =>
 gC msA14 fun m15 msA15 =>
 gI .i64 m15 fun View1 =>
 gC msA15 fun m16 msA16 =>
 gB m16 fun Has1 =>
 gC msA16 fun m17 msA17 =>
 gI .i64 m17 fun At1 =>
 gC msA17 fun m18 msA18 =>
 gS m18 fun Value1 =>
 gC msA18 fun m19 msA19 =>
 gL m19 fun Proof1 =>
 gC msA19 fun m20 msA20 =>
 gL m20 fun VotesL1 =>
 gN msA20 <|
 gC msA11 fun m21 msA21 =>
 gA m21 fun cs2 =>
 gC cs2 fun m22 msA22 =>
 gI .i64 m22 fun By =>
 gC msA22 fun m23 msA23 =>
 gI .i64 m23 fun View2 =>
 gC msA23 fun m24 msA24 =>
 gS m24 fun Value2 =>
 gN msA24 <|
 gC msA21 fun m25 msA25 =>
 gB m25 fun x1 =>
 gN msA25 <|
 bd (dAcceptorPropose (.agg [.i .i64 SF1, .i .i64 ST1, .i .i64 Me1, .i .i64 View1, .b Has1, .i .i64 At1, .s Value1, .list Proof1, .list VotesL1]) (.i .i64 0) (.s ([121] : List UInt8)) (.list ([] : List MV))) fun rA2 =>
 gT rA2 fun vs2 =>
 gC vs2 fun m26 msA26 =>
 gA m26 fun cs3 =>
 gC cs3 fun m27 msA27 =>
 gI .i64 m27 fun SF2 =>
 gC msA27 fun m28 msA28 =>
 gI .i64 m28 fun ST2 =>
 gC msA28 fun m29 msA29 =>
 gI .i64 m29 fun Me2 =>
 gC msA29 fun m30 msA30 =>
 gI .i64 m30 fun View3 =>
 gC msA30 fun m31 msA31 =>
 gB m31 fun Has2 =>
 gC msA31 fun m32 msA32 =>
 gI .i64 m32 fun At2 =>
 gC msA32 fun m33 msA33 =>
 gS m33 fun Value3 =>
 gC msA33 fun m34 msA34 =>
 gL m34 fun Proof2 =>
 gC msA34 fun m35 msA35 =>
 gL m35 fun VotesL2 =>
 gN msA35 <|
 gC msA26 fun m36 msA36 =>
 gA m36 fun cs4 =>
 gC cs4 fun m37 msA37 =>
 gI .i64 m37 fun By1 =>
 gC msA37 fun m38 msA38 =>
 gI .i64 m38 fun View4 =>
 gC msA38 fun m39 msA39 =>
 gS m39 fun Value4 =>
 gN msA39 <|
 gC msA36 fun m40 msA40 =>
 gB m40 fun x2 =>
 gN msA40 <|
 bd (dAcceptorEnter (.agg [.i .i64 SF1, .i .i64 ST1, .i .i64 Me1, .i .i64 View1, .b Has1, .i .i64 At1, .s Value1, .list Proof1, .list VotesL1]) (.i .i64 3)) fun rA3 =>
 gT rA3 fun vs3 =>
 gC vs3 fun m41 msA41 =>
 gA m41 fun cs5 =>
 gC cs5 fun m42 msA42 =>
 gI .i64 m42 fun SF3 =>
 gC msA42 fun m43 msA43 =>
 gI .i64 m43 fun ST3 =>
 gC msA43 fun m44 msA44 =>
 gI .i64 m44 fun Me3 =>
 gC msA44 fun m45 msA45 =>
 gI .i64 m45 fun View5 =>
 gC msA45 fun m46 msA46 =>
 gB m46 fun Has3 =>
 gC msA46 fun m47 msA47 =>
 gI .i64 m47 fun At3 =>
 gC msA47 fun m48 msA48 =>
 gS m48 fun Value5 =>
 gC msA48 fun m49 msA49 =>
 gL m49 fun Proof3 =>
 gC msA49 fun m50 msA50 =>
 gL m50 fun VotesL3 =>
 gN msA50 <|
 gC msA41 fun m51 msA51 =>
 gA m51 fun cs6 =>
 gC cs6 fun m52 msA52 =>
 gI .i64 m52 fun By2 =>
 gC msA52 fun m53 msA53 =>
 gI .i64 m53 fun For =>
 gC msA53 fun m54 msA54 =>
 gB m54 fun Has4 =>
 gC msA54 fun m55 msA55 =>
 gI .i64 m55 fun View6 =>
 gC msA55 fun m56 msA56 =>
 gS m56 fun Value6 =>
 gC msA56 fun m57 msA57 =>
 gL m57 fun Proof4 =>
 gN msA57 <|
 gC msA51 fun m58 msA58 =>
 gB m58 fun x3 =>
 gN msA58 <|
 bd (
 ifB (decide (x = 0)) (
 ifB x1 (
 ifB (!x2) (
 ifB x3 (
 ifB (decide (By = 2)) (
 ifB (decide (Value2 = ([120] : List UInt8))) (
 ifB (decide (View5 = 3)) (
 ifB (decide (For = 3)) (
 some [.b (decide (Value6 = ([120] : List UInt8)))]) (
 some [.b false])) (
 some [.b false])) (
 some [.b false])) (
 some [.b false])) (
 some [.b false])) (
 some [.b false])) (
 some [.b false])) (
 some [.b false])) fun vs4 =>
 gC vs4 fun m59 msA59 =>
 gB m59 fun x4 =>
 gN msA59 <|
 some (.b x4)
theorem linkL21Alive : bodyK cxL21Alive [] none Try.f12 [] = dL21Alive  := by kernel_rfl
noncomputable def gL21Alive : Nat → List MV → Option MV := addG 12 (lst0 dL21Alive) gAcceptorPropose
theorem soundL21Alive : SoundG Try.prog cx gL21Alive :=
  soundAcceptorPropose.fn (c' := cxL21Alive) (caps := []) ⟨rfl, rfl, rfl, rfl, rfl, rfl, rfl⟩ rfl tab_ok eq_ok fk_ok mt_ok mix_ok Try.func12 (by kernel_rfl) (fun _ => rfl) (lst0_of linkL21Alive)

noncomputable def cxR07Right : Ctx := ⟨lookT tiTab, kk, gL21Alive, gv, frs, lookN ftyOf, 23, [], [], lookL [], lookF fkTab, lookM mtTab, lookL [], lookH [(1, ⟨[1], [], [], [(0, [(2, .sc (.k .b))])], []⟩)], lookH [], lookH []⟩
noncomputable def dR07Right (sA : MV) : Option MV :=
 gA sA fun cs =>
 gC cs fun m msA =>
 gI .i64 m fun F =>
 gC msA fun m1 msA1 =>
 gI .i64 m1 fun T =>
 gN msA1 <|
 bd (
 ifB (decide ((1 : Int) ≤ F)) (
 ifB (decide (F ≤ 5)) (
 ifB (decide ((0 : Int) ≤ T)) (
 some [.b (decide (T ≤ F))]) (
 some [.b false])) (
 some [.b false])) (
 some [.b false])) fun vs =>
 gC vs fun m2 msA2 =>
 gB m2 fun x =>
 gN msA2 <|
 some (.b x)
theorem linkR07Right (sA : MV) : bodyK cxR07Right [] none Try.f62 [sA] = dR07Right sA := by kernel_rfl
noncomputable def gR07Right : Nat → List MV → Option MV := addG 62 (lst1 dR07Right) gL21Alive
theorem soundR07Right : SoundG Try.prog cx gR07Right :=
  soundL21Alive.fn (c' := cxR07Right) (caps := []) ⟨rfl, rfl, rfl, rfl, rfl, rfl, rfl⟩ rfl tab_ok eq_ok fk_ok mt_ok mix_ok Try.func62 (by kernel_rfl) (fun _ => rfl) (lst1_of linkR07Right)

noncomputable def cxR07N : Ctx := ⟨lookT tiTab, kk, gR07Right, gv, frs, lookN ftyOf, 11, [], [], lookL [], lookF fkTab, lookM mtTab, lookL [], lookH [], lookH [], lookH []⟩
noncomputable def dR07N (sA : MV) : Option MV :=
 gA sA fun cs =>
 gC cs fun m msA =>
 gI .i64 m fun F =>
 gC msA fun m1 msA1 =>
 gI .i64 m1 fun T =>
 gN msA1 <|
 some (.i .i64 (IntKind.wrap .i64 ((IntKind.wrap .i64 ((IntKind.wrap .i64 (3 * F)) + (IntKind.wrap .i64 (2 * T)))) + 1)))
theorem linkR07N (sA : MV) : bodyK cxR07N [] none Try.f63 [sA] = dR07N sA := by kernel_rfl
noncomputable def gR07N : Nat → List MV → Option MV := addG 63 (lst1 dR07N) gR07Right
theorem soundR07N : SoundG Try.prog cx gR07N :=
  soundR07Right.fn (c' := cxR07N) (caps := []) ⟨rfl, rfl, rfl, rfl, rfl, rfl, rfl⟩ rfl tab_ok eq_ok fk_ok mt_ok mix_ok Try.func63 (by kernel_rfl) (fun _ => rfl) (lst1_of linkR07N)

noncomputable def cxR21New : Ctx := ⟨lookT tiTab, kk, gR07N, gv, frs, lookN ftyOf, 23, [], [], lookL [], lookF fkTab, lookM mtTab, lookL [], lookH [(1, ⟨[1, 2, 4], [], [], [(0, [(18, .sc (.k .b))])], []⟩)], lookH [], lookH []⟩
noncomputable def dR21New (sA me : MV) : Option MV :=
 gA sA fun cs =>
 gC cs fun m msA =>
 gI .i64 m fun F =>
 gC msA fun m1 msA1 =>
 gI .i64 m1 fun T =>
 gN msA1 <|
 gI .i64 me fun me1 =>
 bd (
 bd (dR07Right (.agg [.i .i64 F, .i .i64 T])) fun rA =>
 gB rA fun x =>
 ifB (!x) (
 some [.b true]) (
 ifB (decide (me1 < 0)) (
 some [.b true]) (
 bd (dR07N (.agg [.i .i64 F, .i .i64 T])) fun rA1 =>
 gI .i64 rA1 fun x1 =>
 some [.b (decide (x1 ≤ me1))]))) fun vs =>
 gC vs fun m2 msA2 =>
 gB m2 fun x2 =>
 gN msA2 <|
 ifB x2 (
 some (.tup [.agg [.i .i64 0, .i .i64 0, .i .i64 0, .i .i64 0, .b false, .i .i64 0, .s ([] : List UInt8), .list ([] : List MV), .list ([] : List MV)], .i .i64 1])) (
 some (.tup [.agg [.i .i64 F, .i .i64 T, .i .i64 me1, .i .i64 0, .b false, .i .i64 0, .s ([] : List UInt8), .list ([] : List MV), .list ([] : List MV)], .i .i64 0]))
theorem linkR21New (sA me : MV) : bodyK cxR21New [] none Try.f14 [sA, me] = dR21New sA me := by kernel_rfl
noncomputable def gR21New : Nat → List MV → Option MV := addG 14 (lst2 dR21New) gR07N
theorem soundR21New : SoundG Try.prog cx gR21New :=
  soundR07N.fn (c' := cxR21New) (caps := []) ⟨rfl, rfl, rfl, rfl, rfl, rfl, rfl⟩ rfl tab_ok eq_ok fk_ok mt_ok mix_ok Try.func14 (by kernel_rfl) (fun _ => rfl) (lst2_of linkR21New)

noncomputable def cxL21Sized : Ctx := ⟨lookT tiTab, kk, gR21New, gv, frs, lookN ftyOf, 8, [], [], lookL [], lookF fkTab, lookM mtTab, lookL [], lookH [], lookH [], lookH []⟩
noncomputable def dL21Sized (sA : MV) : Option MV :=
 gA sA fun cs =>
 gC cs fun m msA =>
 gI .i64 m fun F =>
 gC msA fun m1 msA1 =>
 gI .i64 m1 fun T =>
 gN msA1 <|
 some (.agg [.i .i64 F, .i .i64 T])
theorem linkL21Sized (sA : MV) : bodyK cxL21Sized [] none Try.f15 [sA] = dL21Sized sA := by kernel_rfl
noncomputable def gL21Sized : Nat → List MV → Option MV := addG 15 (lst1 dL21Sized) gR21New
theorem soundL21Sized : SoundG Try.prog cx gL21Sized :=
  soundR21New.fn (c' := cxL21Sized) (caps := []) ⟨rfl, rfl, rfl, rfl, rfl, rfl, rfl⟩ rfl tab_ok eq_ok fk_ok mt_ok mix_ok Try.func15 (by kernel_rfl) (fun _ => rfl) (lst1_of linkL21Sized)

noncomputable def cxR18Same : Ctx := ⟨lookT tiTab, kk, gL21Sized, gv, frs, lookN ftyOf, 26, [], [], lookL [], lookF fkTab, lookM mtTab, lookL [(6, [0, 1, 2, 3, 4, 5, 6, 7, 8])], lookH [], lookH [], lookH [(4, ⟨[0, 1], [], [(5, .sc (.k (.i .i64)))], [(1, [(4, .sc (.k .b))]), (2, [])], []⟩)]⟩
noncomputable def dR18Same (a b : MV) : Option MV :=
 gL a fun a1 =>
 gL b fun b1 =>
 lenN a1 fun len =>
 lenN b1 fun len1 =>
 ifB (!decide ((len : Int) = (len1 : Int))) (
 some (.b false)) (
 bd (Loop (fun msA =>
 gC msA fun m msA1 =>
 gI .i64 m fun i =>
 gN msA1 <|
 lenN a1 fun len2 =>
 ifB (decide (i < (len2 : Int))) (
 idx a1 i fun y =>
 gA y fun cs =>
 gC cs fun m1 msA2 =>
 gI .i64 m1 fun By =>
 gC msA2 fun m2 msA3 =>
 gI .i64 m2 fun View =>
 gC msA3 fun m3 msA4 =>
 gS m3 fun Value =>
 gN msA4 <|
 idx b1 i fun y1 =>
 gA y1 fun cs1 =>
 gC cs1 fun m4 msA5 =>
 gI .i64 m4 fun By1 =>
 gC msA5 fun m5 msA6 =>
 gI .i64 m5 fun View1 =>
 gC msA6 fun m6 msA7 =>
 gS m6 fun Value1 =>
 gN msA7 <|
 ifB (!((decide (By = By1)) && ((decide (View = View1)) && (decide (Value = Value1))))) (
 some (.inr (1, [.b false]))) (
 some (.inl [.i .i64 (IntKind.wrap .i64 (i + 1))]))) (
 some (.inr (2, [])))) [.i .i64 0]) fun p =>
 ifB (Nat.beq p.1 2) (
 gN p.2 <|
 some (.b true)) (
 chk (Nat.beq p.1 1) <|
 gC p.2 fun m7 msA8 =>
 gB m7 fun x =>
 gN msA8 <|
 some (.b x)))
theorem linkR18Same (a b : MV) : bodyK cxR18Same [] none Try.f58 [a, b] = dR18Same a b := by kernel_rfl
noncomputable def gR18Same : Nat → List MV → Option MV := addG 58 (lst2 dR18Same) gL21Sized
theorem soundR18Same : SoundG Try.prog cx gR18Same :=
  soundL21Sized.fn (c' := cxR18Same) (caps := []) ⟨rfl, rfl, rfl, rfl, rfl, rfl, rfl⟩ rfl tab_ok eq_ok fk_ok mt_ok mix_ok Try.func58 (by kernel_rfl) (fun _ => rfl) (lst2_of linkR18Same)

noncomputable def cxR21Same : Ctx := ⟨lookT tiTab, kk, gR18Same, gv, frs, lookN ftyOf, 63, [], [], lookL [], lookF fkTab, lookM mtTab, lookL [], lookH [(2, ⟨[2, 3, 5], [], [], [(0, [(4, .sc (.k .b))])], []⟩), (1, ⟨[2, 3], [], [], [(0, [(5, .sc (.k .b))])], []⟩)], lookH [], lookH []⟩
noncomputable def dR21Same (a b : MV) : Option MV :=
 gA a fun cs =>
 gC cs fun m msA =>
 gI .i64 m fun SF =>
 gC msA fun m1 msA1 =>
 gI .i64 m1 fun ST =>
 gC msA1 fun m2 msA2 =>
 gI .i64 m2 fun Me =>
 gC msA2 fun m3 msA3 =>
 gI .i64 m3 fun View =>
 gC msA3 fun m4 msA4 =>
 gB m4 fun Has =>
 gC msA4 fun m5 msA5 =>
 gI .i64 m5 fun At =>
 gC msA5 fun m6 msA6 =>
 gS m6 fun Value =>
 gC msA6 fun m7 msA7 =>
 gL m7 fun Proof =>
 gC msA7 fun m8 msA8 =>
 gL m8 fun VotesL =>
 gN msA8 <|
 gA b fun cs1 =>
 gC cs1 fun m9 msA9 =>
 gI .i64 m9 fun SF1 =>
 gC msA9 fun m10 msA10 =>
 gI .i64 m10 fun ST1 =>
 gC msA10 fun m11 msA11 =>
 gI .i64 m11 fun Me1 =>
 gC msA11 fun m12 msA12 =>
 gI .i64 m12 fun View1 =>
 gC msA12 fun m13 msA13 =>
 gB m13 fun Has1 =>
 gC msA13 fun m14 msA14 =>
 gI .i64 m14 fun At1 =>
 gC msA14 fun m15 msA15 =>
 gS m15 fun Value1 =>
 gC msA15 fun m16 msA16 =>
 gL m16 fun Proof1 =>
 gC msA16 fun m17 msA17 =>
 gL m17 fun VotesL1 =>
 gN msA17 <|
 bd (
 ifB ((decide (SF = SF1)) && (decide (ST = ST1))) (
 ifB (decide (Me = Me1)) (
 ifB (decide (View = View1)) (
 ifB (decide (Has = Has1)) (
 ifB (decide (At = At1)) (
 some [.b (decide (Value = Value1))]) (
 some [.b false])) (
 some [.b false])) (
 some [.b false])) (
 some [.b false])) (
 some [.b false])) fun vs =>
 gC vs fun m18 msA18 =>
 gB m18 fun flat =>
 gN msA18 <|
 bd (
 ifB flat (
 bd (dR18Same (.list Proof) (.list Proof1)) fun rA =>
 gB rA fun x =>
 ifB x (
 bd (dR18Same (.list VotesL) (.list VotesL1)) fun rA1 =>
 gB rA1 fun x1 =>
 some [.b x1]) (
 some [.b false])) (
 some [.b false])) fun vs1 =>
 gC vs1 fun m19 msA19 =>
 gB m19 fun x2 =>
 gN msA19 <|
 some (.b x2)
theorem linkR21Same (a b : MV) : bodyK cxR21Same [] none Try.f16 [a, b] = dR21Same a b := by kernel_rfl
noncomputable def gR21Same : Nat → List MV → Option MV := addG 16 (lst2 dR21Same) gR18Same
theorem soundR21Same : SoundG Try.prog cx gR21Same :=
  soundR18Same.fn (c' := cxR21Same) (caps := []) ⟨rfl, rfl, rfl, rfl, rfl, rfl, rfl⟩ rfl tab_ok eq_ok fk_ok mt_ok mix_ok Try.func16 (by kernel_rfl) (fun _ => rfl) (lst2_of linkR21Same)

noncomputable def cxL21Plain : Ctx := ⟨lookT tiTab, kk, gR21Same, gv, frs, lookN ftyOf, 23, [], [], lookL [], lookF fkTab, lookM mtTab, lookL [(1, [0, 1, 3, 4, 5, 6, 7, 8, 9, 10, 11, 12, 13, 14, 15, 16, 17, 18, 2, 19, 20])], lookH [], lookH [], lookH []⟩
noncomputable def dL21Plain (a : MV) : Option MV :=
 gA a fun cs =>
 gC cs fun m msA =>
 gI .i64 m fun SF =>
 gC msA fun m1 msA1 =>
 gI .i64 m1 fun ST =>
 gC msA1 fun m2 msA2 =>
 gI .i64 m2 fun Me =>
 gC msA2 fun m3 msA3 =>
 gI .i64 m3 fun View =>
 gC msA3 fun m4 msA4 =>
 gB m4 fun Has =>
 gC msA4 fun m5 msA5 =>
 gI .i64 m5 fun At =>
 gC msA5 fun m6 msA6 =>
 gS m6 fun Value =>
 gC msA6 fun m7 msA7 =>
 gL m7 fun Proof =>
 gC msA7 fun m8 msA8 =>
 gL m8 fun VotesL =>
 gN msA8 <|
 bd (dL21Sized (.agg [.i .i64 SF, .i .i64 ST])) fun rA =>
 gA rA fun cs1 =>
 gC cs1 fun m9 msA9 =>
 gI .i64 m9 fun F =>
 gC msA9 fun m10 msA10 =>
 gI .i64 m10 fun T =>
 gN msA10 <|
 some (.agg [.i .i64 F, .i .i64 T, .i .i64 Me, .i .i64 View, .b Has, .i .i64 At, .s Value, .list Proof, .list VotesL])
theorem linkL21Plain (a : MV) : bodyK cxL21Plain [] none Try.f17 [a] = dL21Plain a := by kernel_rfl
noncomputable def gL21Plain : Nat → List MV → Option MV := addG 17 (lst1 dL21Plain) gR21Same
theorem soundL21Plain : SoundG Try.prog cx gL21Plain :=
  soundR21Same.fn (c' := cxL21Plain) (caps := []) ⟨rfl, rfl, rfl, rfl, rfl, rfl, rfl⟩ rfl tab_ok eq_ok fk_ok mt_ok mix_ok Try.func17 (by kernel_rfl) (fun _ => rfl) (lst1_of linkL21Plain)

noncomputable def cxSlicesEqualApiAccept : Ctx := ⟨lookT tiTab, kk, gL21Plain, gv, frs, lookN ftyOf, 26, [], [], lookL [], lookF fkTab, lookM mtTab, lookL [(6, [0, 1, 2, 3, 4, 5, 6, 7, 8])], lookH [], lookH [], lookH [(4, ⟨[0, 1, 12], [], [(13, .sc (.k (.i .i64)))], [(1, [(4, .sc (.k .b))]), (2, [])], []⟩)]⟩
noncomputable def dSlicesEqualApiAccept (s1 s2 : MV) : Option MV :=
 gL s1 fun s1N1 =>
 gL s2 fun s2N1 =>
 lenN s1N1 fun len =>
 lenN s2N1 fun len1 =>
 ifB (!decide ((len : Int) = (len1 : Int))) (
 some (.b false)) (
 lenN s1N1 fun len2 =>
 bd (Loop (fun msA =>
 gC msA fun m msA1 =>
 gI .i64 m fun x =>
 gN msA1 <|
 ifB (decide (x < (len2 : Int))) (
 idx s1N1 x fun y =>
 gA y fun cs =>
 gC cs fun m1 msA2 =>
 gI .i64 m1 fun By =>
 gC msA2 fun m2 msA3 =>
 gI .i64 m2 fun View =>
 gC msA3 fun m3 msA4 =>
 gS m3 fun Value =>
 gN msA4 <|
 idx s2N1 x fun y1 =>
 gA y1 fun cs1 =>
 gC cs1 fun m4 msA5 =>
 gI .i64 m4 fun By1 =>
 gC msA5 fun m5 msA6 =>
 gI .i64 m5 fun View1 =>
 gC msA6 fun m6 msA7 =>
 gS m6 fun Value1 =>
 gN msA7 <|
 ifB (!((decide (By = By1)) && ((decide (View = View1)) && (decide (Value = Value1))))) (
 some (.inr (1, [.b false]))) (
 some (.inl [.i .i64 (IntKind.wrap .i64 (x + 1))]))) (
 some (.inr (2, [])))) [.i .i64 0]) fun p =>
 ifB (Nat.beq p.1 2) (
 gN p.2 <|
 some (.b true)) (
 chk (Nat.beq p.1 1) <|
 gC p.2 fun m7 msA8 =>
 gB m7 fun x1 =>
 gN msA8 <|
 some (.b x1)))
theorem linkSlicesEqualApiAccept (s1 s2 : MV) : bodyK cxSlicesEqualApiAccept [] none Try.f101 [s1, s2] = dSlicesEqualApiAccept s1 s2 := by kernel_rfl
noncomputable def gSlicesEqualApiAccept : Nat → List MV → Option MV := addG 101 (lst2 dSlicesEqualApiAccept) gL21Plain
theorem soundSlicesEqualApiAccept : SoundG Try.prog cx gSlicesEqualApiAccept :=
  soundL21Plain.fn (c' := cxSlicesEqualApiAccept) (caps := []) ⟨rfl, rfl, rfl, rfl, rfl, rfl, rfl⟩ rfl tab_ok eq_ok fk_ok mt_ok mix_ok Try.func101 (by kernel_rfl) (fun _ => rfl) (lst2_of linkSlicesEqualApiAccept)

noncomputable def cxTallySame : Ctx := ⟨lookT tiTab, kk, gSlicesEqualApiAccept, gv, frs, lookN ftyOf, 8, [], [], lookL [], lookF fkTab, lookM mtTab, lookL [], lookH [], lookH [], lookH []⟩
noncomputable def dTallySame (a b : MV) : Option MV :=
 gL a fun a1 =>
 gL b fun b1 =>
 bd (dSlicesEqualApiAccept (.list a1) (.list b1)) fun rA =>
 gB rA fun x =>
 some (.b x)
theorem linkTallySame (a b : MV) : bodyK cxTallySame [] none Try.f64 [a, b] = dTallySame a b := by kernel_rfl
noncomputable def gTallySame : Nat → List MV → Option MV := addG 64 (lst2 dTallySame) gSlicesEqualApiAccept
theorem soundTallySame : SoundG Try.prog cx gTallySame :=
  soundSlicesEqualApiAccept.fn (c' := cxTallySame) (caps := []) ⟨rfl, rfl, rfl, rfl, rfl, rfl, rfl⟩ rfl tab_ok eq_ok fk_ok mt_ok mix_ok Try.func64 (by kernel_rfl) (fun _ => rfl) (lst2_of linkTallySame)

noncomputable def cxAcceptorSame : Ctx := ⟨lookT tiTab, kk, gTallySame, gv, frs, lookN ftyOf, 63, [], [], lookL [], lookF fkTab, lookM mtTab, lookL [], lookH [(2, ⟨[2, 3, 5], [], [], [(0, [(4, .sc (.k .b))])], []⟩), (1, ⟨[2, 3], [], [], [(0, [(5, .sc (.k .b))])], []⟩)], lookH [], lookH []⟩
noncomputable def dAcceptorSame (a b : MV) : Option MV :=
 gA a fun cs =>
 gC cs fun m msA =>
 gI .i64 m fun SF =>
 gC msA fun m1 msA1 =>
 gI .i64 m1 fun ST =>
 gC msA1 fun m2 msA2 =>
 gI .i64 m2 fun Me =>
 gC msA2 fun m3 msA3 =>
 gI .i64 m3 fun View =>
 gC msA3 fun m4 msA4 =>
 gB m4 fun Has =>
 gC msA4 fun m5 msA5 =>
 gI .i64 m5 fun At =>
 gC msA5 fun m6 msA6 =>
 gS m6 fun Value =>
 gC msA6 fun m7 msA7 =>
 gL m7 fun Proof =>
 gC msA7 fun m8 msA8 =>
 gL m8 fun VotesL =>
 gN msA8 <|
 gA b fun cs1 =>
 gC cs1 fun m9 msA9 =>
 gI .i64 m9 fun SF1 =>
 gC msA9 fun m10 msA10 =>
 gI .i64 m10 fun ST1 =>
 gC msA10 fun m11 msA11 =>
 gI .i64 m11 fun Me1 =>
 gC msA11 fun m12 msA12 =>
 gI .i64 m12 fun View1 =>
 gC msA12 fun m13 msA13 =>
 gB m13 fun Has1 =>
 gC msA13 fun m14 msA14 =>
 gI .i64 m14 fun At1 =>
 gC msA14 fun m15 msA15 =>
 gS m15 fun Value1 =>
 gC msA15 fun m16 msA16 =>
 gL m16 fun Proof1 =>
 gC msA16 fun m17 msA17 =>
 gL m17 fun VotesL1 =>
 gN msA17 <|
 bd (
 ifB ((decide (SF = SF1)) && (decide (ST = ST1))) (
 ifB (decide (Me = Me1)) (
 ifB (decide (View = View1)) (
 ifB (decide (Has = Has1)) (
 ifB (decide (At = At1)) (
 some [.b (decide (Value = Value1))]) (
 some [.b false])) (
 some [.b false])) (
 some [.b false])) (
 some [.b false])) (
 some [.b false])) fun vs =>
 gC vs fun m18 msA18 =>
 gB m18 fun one =>
 gN msA18 <|
 bd (
 ifB one (
 bd (dTallySame (.list Proof) (.list Proof1)) fun rA =>
 gB rA fun x =>
 ifB x (
 bd (dTallySame (.list VotesL) (.list VotesL1)) fun rA1 =>
 gB rA1 fun x1 =>
 some [.b x1]) (
 some [.b false])) (
 some [.b false])) fun vs1 =>
 gC vs1 fun m19 msA19 =>
 gB m19 fun x2 =>
 gN msA19 <|
 some (.b x2)
theorem linkAcceptorSame (a b : MV) : bodyK cxAcceptorSame [] none Try.f18 [a, b] = dAcceptorSame a b := by kernel_rfl
noncomputable def gAcceptorSame : Nat → List MV → Option MV := addG 18 (lst2 dAcceptorSame) gTallySame
theorem soundAcceptorSame : SoundG Try.prog cx gAcceptorSame :=
  soundTallySame.fn (c' := cxAcceptorSame) (caps := []) ⟨rfl, rfl, rfl, rfl, rfl, rfl, rfl⟩ rfl tab_ok eq_ok fk_ok mt_ok mix_ok Try.func18 (by kernel_rfl) (fun _ => rfl) (lst2_of linkAcceptorSame)

noncomputable def cxAcceptorAcceptorLasts : Ctx := ⟨lookT tiTab, kk, gAcceptorSame, gv, frs, lookN ftyOf, 68, [], [], lookL [], lookF fkTab, lookM mtTab, lookL [(7, [0, 1, 2, 3, 4, 5, 6, 7, 8, 9, 10, 11, 12, 13, 14, 15, 16, 17, 18, 19, 20, 21])], lookH [(7, ⟨[1], [], [], [(0, [(2, .sc (.k .b))])], []⟩), (5, ⟨[1], [], [], [(0, [(33, .sc (.k .b))])], []⟩), (3, ⟨[1], [], [], [(0, [(12, .sc (.k .b))])], []⟩), (1, ⟨[1], [], [], [(0, [(3, .sc (.k .b))])], []⟩)], lookH [], lookH []⟩
noncomputable def dAcceptorAcceptorLasts (a : MV) : Option MV :=
 gA a fun cs =>
 gC cs fun m msA =>
 gI .i64 m fun SF =>
 gC msA fun m1 msA1 =>
 gI .i64 m1 fun ST =>
 gC msA1 fun m2 msA2 =>
 gI .i64 m2 fun Me =>
 gC msA2 fun m3 msA3 =>
 gI .i64 m3 fun View =>
 gC msA3 fun m4 msA4 =>
 gB m4 fun Has =>
 gC msA4 fun m5 msA5 =>
 gI .i64 m5 fun At =>
 gC msA5 fun m6 msA6 =>
 gS m6 fun Value =>
 gC msA6 fun m7 msA7 =>
 gL m7 fun Proof =>
 gC msA7 fun m8 msA8 =>
 gL m8 fun VotesL =>
 gN msA8 <|
 bd (
 ifB (decide (View < 0)) (
 some [.b true]) (
 some [.b (decide ((100000 : Int) < View))])) fun vs =>
 gC vs fun m9 msA9 =>
 gB m9 fun x =>
 gN msA9 <|
 ifB x (
 some (.b false)) (
 bd (
 ifB Has (
 ifB (decide (At < 0)) (
 some [.b true]) (
 ifB (decide (View < At)) (
 some [.b true]) (
 some [.b (decide ((6000 : Int) < (Value.length : Int)))]))) (
 some [.b false])) fun vs1 =>
 gC vs1 fun m10 msA10 =>
 gB m10 fun x1 =>
 gN msA10 <|
 ifB x1 (
 some (.b false)) (
 bd (
 ifB (!Has) (
 ifB (!decide (At = 0)) (
 some [.b true]) (
 some [.b (!decide (Value = ([] : List UInt8)))])) (
 some [.b false])) fun vs2 =>
 gC vs2 fun m11 msA11 =>
 gB m11 fun x2 =>
 gN msA11 <|
 ifB x2 (
 some (.b false)) (
 bd (
 lenN Proof fun len =>
 ifB (decide ((len : Int) = 0)) (
 some [.b true]) (
 bd (dProofRight (.agg [.i .i64 SF, .i .i64 ST]) (.list Proof)) fun rA =>
 gB rA fun x3 =>
 ifB x3 (
 idx Proof 0 fun y =>
 gA y fun cs1 =>
 gC cs1 fun m12 msA12 =>
 gI .i64 m12 fun By =>
 gC msA12 fun m13 msA13 =>
 gI .i64 m13 fun View1 =>
 gC msA13 fun m14 msA14 =>
 gS m14 fun Value1 =>
 gN msA14 <|
 some [.b (decide (View1 ≤ View))]) (
 some [.b false]))) fun vs3 =>
 gC vs3 fun m15 msA15 =>
 gB m15 fun x4 =>
 gN msA15 <|
 some (.b x4))))
theorem linkAcceptorAcceptorLasts (a : MV) : bodyK cxAcceptorAcceptorLasts [] none Try.f65 [a] = dAcceptorAcceptorLasts a := by kernel_rfl
noncomputable def gAcceptorAcceptorLasts : Nat → List MV → Option MV := addG 65 (lst1 dAcceptorAcceptorLasts) gAcceptorSame
theorem soundAcceptorAcceptorLasts : SoundG Try.prog cx gAcceptorAcceptorLasts :=
  soundAcceptorSame.fn (c' := cxAcceptorAcceptorLasts) (caps := []) ⟨rfl, rfl, rfl, rfl, rfl, rfl, rfl⟩ rfl tab_ok eq_ok fk_ok mt_ok mix_ok Try.func65 (by kernel_rfl) (fun _ => rfl) (lst1_of linkAcceptorAcceptorLasts)

noncomputable def cxAcceptorRight : Ctx := ⟨lookT tiTab, kk, gAcceptorAcceptorLasts, gv, frs, lookN ftyOf, 50, [], [], lookL [], lookF fkTab, lookM mtTab, lookL [(7, [0, 1, 2, 3, 4, 5, 6, 7, 8, 9, 10, 11, 12])], lookH [(7, ⟨[1, 6, 30, 31, 32], [], [], [(0, [(48, .sc (.k .b))])], []⟩), (2, ⟨[1, 4], [], [], [(0, [(27, .sc (.k .b))])], []⟩)], lookH [], lookH [(5, ⟨[1, 30, 31], [], [(32, .sc (.k (.i .i64)))], [(1, [(2, .sc (.k .b))]), (2, [])], []⟩)]⟩
noncomputable def dAcceptorRight (a : MV) : Option MV :=
 gA a fun cs =>
 gC cs fun m msA =>
 gI .i64 m fun SF =>
 gC msA fun m1 msA1 =>
 gI .i64 m1 fun ST =>
 gC msA1 fun m2 msA2 =>
 gI .i64 m2 fun Me =>
 gC msA2 fun m3 msA3 =>
 gI .i64 m3 fun View =>
 gC msA3 fun m4 msA4 =>
 gB m4 fun Has =>
 gC msA4 fun m5 msA5 =>
 gI .i64 m5 fun At =>
 gC msA5 fun m6 msA6 =>
 gS m6 fun Value =>
 gC msA6 fun m7 msA7 =>
 gL m7 fun Proof =>
 gC msA7 fun m8 msA8 =>
 gL m8 fun VotesL =>
 gN msA8 <|
 bd (dAcceptorNew (.agg [.i .i64 SF, .i .i64 ST]) (.i .i64 Me)) fun rA =>
 gT rA fun vs =>
 gC vs fun m9 msA9 =>
 gA m9 fun cs1 =>
 gC cs1 fun m10 msA10 =>
 gI .i64 m10 fun SF1 =>
 gC msA10 fun m11 msA11 =>
 gI .i64 m11 fun ST1 =>
 gC msA11 fun m12 msA12 =>
 gI .i64 m12 fun Me1 =>
 gC msA12 fun m13 msA13 =>
 gI .i64 m13 fun View1 =>
 gC msA13 fun m14 msA14 =>
 gB m14 fun Has1 =>
 gC msA14 fun m15 msA15 =>
 gI .i64 m15 fun At1 =>
 gC msA15 fun m16 msA16 =>
 gS m16 fun Value1 =>
 gC msA16 fun m17 msA17 =>
 gL m17 fun Proof1 =>
 gC msA17 fun m18 msA18 =>
 gL m18 fun VotesL1 =>
 gN msA18 <|
 gC msA9 fun m19 msA19 =>
 gI .i64 m19 fun x =>
 gN msA19 <|
 bd (
 ifB (!decide (x = 0)) (
 some [.b true]) (
 bd (dAcceptorAcceptorLasts (.agg [.i .i64 SF, .i .i64 ST, .i .i64 Me, .i .i64 View, .b Has, .i .i64 At, .s Value, .list Proof, .list VotesL])) fun rA1 =>
 gB rA1 fun x1 =>
 ifB (!x1) (
 some [.b true]) (
 bd (dTallyRight (.agg [.list VotesL])) fun rA2 =>
 gB rA2 fun x2 =>
 some [.b (!x2)]))) fun vs1 =>
 gC vs1 fun m20 msA20 =>
 gB m20 fun x3 =>
 gN msA20 <|
 ifB x3 (
 some (.b false)) (
 lenN VotesL fun len =>
 bd (Loop (fun msA21 =>
 gC msA21 fun m21 msA22 =>
 gI .i64 m21 fun x4 =>
 gN msA22 <|
 ifB (decide (x4 < (len : Int))) (
 idx VotesL x4 fun y =>
 gA y fun cs2 =>
 gC cs2 fun m22 msA23 =>
 gI .i64 m22 fun By =>
 gC msA23 fun m23 msA24 =>
 gI .i64 m23 fun View2 =>
 gC msA24 fun m24 msA25 =>
 gS m24 fun Value2 =>
 gN msA25 <|
 bd (
 bd (dSizeN (.agg [.i .i64 SF, .i .i64 ST])) fun rA3 =>
 gI .i64 rA3 fun x5 =>
 ifB (decide (x5 ≤ By)) (
 some [.b true]) (
 some [.b (!decide (View2 = View))])) fun vs2 =>
 gC vs2 fun m25 msA26 =>
 gB m25 fun x6 =>
 gN msA26 <|
 ifB x6 (
 some (.inr (1, [.b false]))) (
 some (.inl [.i .i64 (IntKind.wrap .i64 (x4 + 1))]))) (
 some (.inr (2, [])))) [.i .i64 0]) fun p =>
 ifB (Nat.beq p.1 2) (
 gN p.2 <|
 some (.b true)) (
 chk (Nat.beq p.1 1) <|
 gC p.2 fun m26 msA27 =>
 gB m26 fun x7 =>
 gN msA27 <|
 some (.b x7)))
theorem linkAcceptorRight (a : MV) : bodyK cxAcceptorRight [] none Try.f19 [a] = dAcceptorRight a := by kernel_rfl
noncomputable def gAcceptorRight : Nat → List MV → Option MV := addG 19 (lst1 dAcceptorRight) gAcceptorAcceptorLasts
theorem soundAcceptorRight : SoundG Try.prog cx gAcceptorRight :=
  soundAcceptorAcceptorLasts.fn (c' := cxAcceptorRight) (caps := []) ⟨rfl, rfl, rfl, rfl, rfl, rfl, rfl⟩ rfl tab_ok eq_ok fk_ok mt_ok mix_ok Try.func19 (by kernel_rfl) (fun _ => rfl) (lst1_of linkAcceptorRight)

noncomputable def cxR18May : Ctx := ⟨lookT tiTab, kk, gAcceptorRight, gv, frs, lookN ftyOf, 22, [], [], lookL [], lookF fkTab, lookM mtTab, lookL [], lookH [(1, ⟨[1], [], [], [(0, [(2, .sc (.k .b))])], []⟩)], lookH [], lookH []⟩
noncomputable def dR18May (a : MV) : Option MV :=
 gA a fun cs =>
 gC cs fun m msA =>
 gI .i64 m fun By =>
 gC msA fun m1 msA1 =>
 gI .i64 m1 fun View =>
 gC msA1 fun m2 msA2 =>
 gS m2 fun Value =>
 gN msA2 <|
 bd (
 ifB (decide ((0 : Int) ≤ By)) (
 ifB (decide ((0 : Int) ≤ View)) (
 ifB (decide (View ≤ 100000)) (
 some [.b (decide ((Value.length : Int) ≤ 6000))]) (
 some [.b false])) (
 some [.b false])) (
 some [.b false])) fun vs =>
 gC vs fun m3 msA3 =>
 gB m3 fun x =>
 gN msA3 <|
 some (.b x)
theorem linkR18May (a : MV) : bodyK cxR18May [] none Try.f85 [a] = dR18May a := by kernel_rfl
noncomputable def gR18May : Nat → List MV → Option MV := addG 85 (lst1 dR18May) gAcceptorRight
theorem soundR18May : SoundG Try.prog cx gR18May :=
  soundAcceptorRight.fn (c' := cxR18May) (caps := []) ⟨rfl, rfl, rfl, rfl, rfl, rfl, rfl⟩ rfl tab_ok eq_ok fk_ok mt_ok mix_ok Try.func85 (by kernel_rfl) (fun _ => rfl) (lst1_of linkR18May)

noncomputable def cxR18Right : Ctx := ⟨lookT tiTab, kk, gR18May, gv, frs, lookN ftyOf, 38, [], [], lookL [], lookF fkTab, lookM mtTab, lookL [(4, [0, 1, 2, 3, 4, 5, 6, 7, 8, 9, 10, 11, 12, 13, 14, 15, 16, 17, 18, 19, 20, 21, 22, 23, 24, 25, 26])], lookH [(4, ⟨[1, 3], [], [], [(0, [(37, .sc (.k .b))])], []⟩)], lookH [], lookH [(2, ⟨[1], [], [(3, .sc (.k (.i .i64)))], [(1, [(2, .sc (.k .b))]), (2, [])], []⟩)]⟩
noncomputable def dR18Right (t : MV) : Option MV :=
 gA t fun cs =>
 gC cs fun m msA =>
 gL m fun L =>
 gN msA <|
 bd (Loop (fun msA1 =>
 gC msA1 fun m1 msA2 =>
 gI .i64 m1 fun i =>
 gN msA2 <|
 lenN L fun len =>
 ifB (decide (i < (len : Int))) (
 bd (
 idx L i fun y =>
 gA y fun cs1 =>
 gC cs1 fun m2 msA3 =>
 gI .i64 m2 fun By =>
 gC msA3 fun m3 msA4 =>
 gI .i64 m3 fun View =>
 gC msA4 fun m4 msA5 =>
 gS m4 fun Value =>
 gN msA5 <|
 bd (dR18May (.agg [.i .i64 By, .i .i64 View, .s Value])) fun rA =>
 gB rA fun x =>
 ifB (!x) (
 some [.b true]) (
 ifB (decide ((0 : Int) < i)) (
 idx L (IntKind.wrap .i64 (i - 1)) fun y1 =>
 gA y1 fun cs2 =>
 gC cs2 fun m5 msA6 =>
 gI .i64 m5 fun By1 =>
 gC msA6 fun m6 msA7 =>
 gI .i64 m6 fun View1 =>
 gC msA7 fun m7 msA8 =>
 gS m7 fun Value1 =>
 gN msA8 <|
 idx L i fun y2 =>
 gA y2 fun cs3 =>
 gC cs3 fun m8 msA9 =>
 gI .i64 m8 fun By2 =>
 gC msA9 fun m9 msA10 =>
 gI .i64 m9 fun View2 =>
 gC msA10 fun m10 msA11 =>
 gS m10 fun Value2 =>
 gN msA11 <|
 some [.b (decide (By2 ≤ By1))]) (
 some [.b false]))) fun vs =>
 gC vs fun m11 msA12 =>
 gB m11 fun x1 =>
 gN msA12 <|
 ifB x1 (
 some (.inr (1, [.b false]))) (
 some (.inl [.i .i64 (IntKind.wrap .i64 (i + 1))]))) (
 some (.inr (2, [])))) [.i .i64 0]) fun p =>
 ifB (Nat.beq p.1 2) (
 gN p.2 <|
 some (.b true)) (
 chk (Nat.beq p.1 1) <|
 gC p.2 fun m12 msA13 =>
 gB m12 fun x2 =>
 gN msA13 <|
 some (.b x2))
theorem linkR18Right (t : MV) : bodyK cxR18Right [] none Try.f67 [t] = dR18Right t := by kernel_rfl
noncomputable def gR18Right : Nat → List MV → Option MV := addG 67 (lst1 dR18Right) gR18May
theorem soundR18Right : SoundG Try.prog cx gR18Right :=
  soundR18May.fn (c' := cxR18Right) (caps := []) ⟨rfl, rfl, rfl, rfl, rfl, rfl, rfl⟩ rfl tab_ok eq_ok fk_ok mt_ok mix_ok Try.func67 (by kernel_rfl) (fun _ => rfl) (lst1_of linkR18Right)

noncomputable def cxR07Proof : Ctx := ⟨lookT tiTab, kk, gR18Right, gv, frs, lookN ftyOf, 10, [], [], lookL [], lookF fkTab, lookM mtTab, lookL [], lookH [], lookH [], lookH []⟩
noncomputable def dR07Proof (sA : MV) : Option MV :=
 gA sA fun cs =>
 gC cs fun m msA =>
 gI .i64 m fun F =>
 gC msA fun m1 msA1 =>
 gI .i64 m1 fun T =>
 gN msA1 <|
 some (.i .i64 (IntKind.wrap .i64 ((IntKind.wrap .i64 ((IntKind.wrap .i64 (2 * F)) + T)) + 1)))
theorem linkR07Proof (sA : MV) : bodyK cxR07Proof [] none Try.f89 [sA] = dR07Proof sA := by kernel_rfl
noncomputable def gR07Proof : Nat → List MV → Option MV := addG 89 (lst1 dR07Proof) gR18Right
theorem soundR07Proof : SoundG Try.prog cx gR07Proof :=
  soundR18Right.fn (c' := cxR07Proof) (caps := []) ⟨rfl, rfl, rfl, rfl, rfl, rfl, rfl⟩ rfl tab_ok eq_ok fk_ok mt_ok mix_ok Try.func89 (by kernel_rfl) (fun _ => rfl) (lst1_of linkR07Proof)

noncomputable def cxR19Right : Ctx := ⟨lookT tiTab, kk, gR07Proof, gv, frs, lookN ftyOf, 70, [], [], lookL [], lookF fkTab, lookM mtTab, lookL [(7, [0, 1, 2, 3, 4, 5, 6, 7, 8, 9, 10, 11, 12, 13, 14, 15, 16, 17, 18, 19, 20, 21, 22, 23, 24, 25, 26, 27, 28, 29, 30, 31, 32, 33, 34, 35, 36, 37, 38, 39, 40, 41, 42])], lookH [(7, ⟨[1, 2, 5, 6], [], [], [(0, [(69, .sc (.k .b))])], []⟩), (1, ⟨[1, 2], [], [], [(0, [(16, .sc (.k .b))])], []⟩)], lookH [], lookH [(4, ⟨[1, 2], [], [(5, .sc (.k (.i .i64)))], [(1, [(4, .sc (.k .b))]), (2, [])], []⟩)]⟩
noncomputable def dR19Right (a a1 : MV) : Option MV :=
 gA a fun cs =>
 gC cs fun m msA =>
 gI .i64 m fun F =>
 gC msA fun m1 msA1 =>
 gI .i64 m1 fun T =>
 gN msA1 <|
 gL a1 fun a1N1 =>
 bd (
 bd (dR07Right (.agg [.i .i64 F, .i .i64 T])) fun rA =>
 gB rA fun x =>
 ifB (!x) (
 some [.b true]) (
 lenN a1N1 fun len =>
 bd (dR07Proof (.agg [.i .i64 F, .i .i64 T])) fun rA1 =>
 gI .i64 rA1 fun x1 =>
 some [.b (!decide ((len : Int) = x1))])) fun vs =>
 gC vs fun m2 msA2 =>
 gB m2 fun x2 =>
 gN msA2 <|
 ifB x2 (
 some (.b false)) (
 bd (Loop (fun msA3 =>
 gC msA3 fun m3 msA4 =>
 gI .i64 m3 fun x3 =>
 gN msA4 <|
 lenN a1N1 fun len1 =>
 ifB (decide (x3 < (len1 : Int))) (
 idx a1N1 x3 fun y =>
 gA y fun cs1 =>
 gC cs1 fun m4 msA5 =>
 gI .i64 m4 fun By =>
 gC msA5 fun m5 msA6 =>
 gI .i64 m5 fun View =>
 gC msA6 fun m6 msA7 =>
 gS m6 fun Value =>
 gN msA7 <|
 bd (
 bd (dR18May (.agg [.i .i64 By, .i .i64 View, .s Value])) fun rA2 =>
 gB rA2 fun x4 =>
 ifB (!x4) (
 some [.b true]) (
 bd (dR07N (.agg [.i .i64 F, .i .i64 T])) fun rA3 =>
 gI .i64 rA3 fun x5 =>
 ifB (decide (x5 ≤ By)) (
 some [.b true]) (
 idx a1N1 0 fun y1 =>
 gA y1 fun cs2 =>
 gC cs2 fun m7 msA8 =>
 gI .i64 m7 fun By1 =>
 gC msA8 fun m8 msA9 =>
 gI .i64 m8 fun View1 =>
 gC msA9 fun m9 msA10 =>
 gS m9 fun Value1 =>
 gN msA10 <|
 ifB (!decide (View = View1)) (
 some [.b true]) (
 idx a1N1 0 fun y2 =>
 gA y2 fun cs3 =>
 gC cs3 fun m10 msA11 =>
 gI .i64 m10 fun By2 =>
 gC msA11 fun m11 msA12 =>
 gI .i64 m11 fun View2 =>
 gC msA12 fun m12 msA13 =>
 gS m12 fun Value2 =>
 gN msA13 <|
 ifB (!decide (Value = Value2)) (
 some [.b true]) (
 ifB (decide ((0 : Int) < x3)) (
 idx a1N1 (IntKind.wrap .i64 (x3 - 1)) fun y3 =>
 gA y3 fun cs4 =>
 gC cs4 fun m13 msA14 =>
 gI .i64 m13 fun By3 =>
 gC msA14 fun m14 msA15 =>
 gI .i64 m14 fun View3 =>
 gC msA15 fun m15 msA16 =>
 gS m15 fun Value3 =>
 gN msA16 <|
 some [.b (decide (By ≤ By3))]) (
 some [.b false])))))) fun vs1 =>
 gC vs1 fun m16 msA17 =>
 gB m16 fun x6 =>
 gN msA17 <|
 ifB x6 (
 some (.inr (1, [.b false]))) (
 some (.inl [.i .i64 (IntKind.wrap .i64 (x3 + 1))]))) (
 some (.inr (2, [])))) [.i .i64 0]) fun p =>
 ifB (Nat.beq p.1 2) (
 gN p.2 <|
 some (.b true)) (
 chk (Nat.beq p.1 1) <|
 gC p.2 fun m17 msA18 =>
 gB m17 fun x7 =>
 gN msA18 <|
 some (.b x7)))
theorem linkR19Right (a a1 : MV) : bodyK cxR19Right [] none Try.f68 [a, a1] = dR19Right a a1 := by kernel_rfl
noncomputable def gR19Right : Nat → List MV → Option MV := addG 68 (lst2 dR19Right) gR07Proof
theorem soundR19Right : SoundG Try.prog cx gR19Right :=
  soundR07Proof.fn (c' := cxR19Right) (caps := []) ⟨rfl, rfl, rfl, rfl, rfl, rfl, rfl⟩ rfl tab_ok eq_ok fk_ok mt_ok mix_ok Try.func68 (by kernel_rfl) (fun _ => rfl) (lst2_of linkR19Right)

noncomputable def cxR21Right : Ctx := ⟨lookT tiTab, kk, gR19Right, gv, frs, lookN ftyOf, 120, [], [], lookL [], lookF fkTab, lookM mtTab, lookL [(6, [0, 1, 2, 3, 4, 5, 6, 7, 8, 9, 10, 11, 12, 13, 14, 15, 16, 17, 18, 19, 20, 21]), (11, [0, 1, 2, 3, 4, 5, 6, 7, 8, 9, 10, 11, 12, 13, 14, 15, 16, 17, 18, 19, 20, 21, 22])], lookH [(11, ⟨[1, 5], [], [], [(0, [(119, .sc (.k .b))])], []⟩), (6, ⟨[1], [], [], [(0, [(88, .sc (.k .b))])], []⟩), (4, ⟨[1], [], [], [(0, [(66, .sc (.k .b))])], []⟩), (2, ⟨[1, 4], [], [], [(0, [(31, .sc (.k .b))])], []⟩)], lookH [], lookH [(9, ⟨[1], [], [(5, .sc (.k (.i .i64)))], [(1, [(2, .sc (.k .b))]), (2, [])], []⟩)]⟩
noncomputable def dR21Right (a : MV) : Option MV :=
 gA a fun cs =>
 gC cs fun m msA =>
 gI .i64 m fun SF =>
 gC msA fun m1 msA1 =>
 gI .i64 m1 fun ST =>
 gC msA1 fun m2 msA2 =>
 gI .i64 m2 fun Me =>
 gC msA2 fun m3 msA3 =>
 gI .i64 m3 fun View =>
 gC msA3 fun m4 msA4 =>
 gB m4 fun Has =>
 gC msA4 fun m5 msA5 =>
 gI .i64 m5 fun At =>
 gC msA5 fun m6 msA6 =>
 gS m6 fun Value =>
 gC msA6 fun m7 msA7 =>
 gL m7 fun Proof =>
 gC msA7 fun m8 msA8 =>
 gL m8 fun VotesL =>
 gN msA8 <|
 bd (dR21New (.agg [.i .i64 SF, .i .i64 ST]) (.i .i64 Me)) fun rA =>
 gT rA fun vs =>
 gC vs fun m9 msA9 =>
 gA m9 fun cs1 =>
 gC cs1 fun m10 msA10 =>
 gI .i64 m10 fun SF1 =>
 gC msA10 fun m11 msA11 =>
 gI .i64 m11 fun ST1 =>
 gC msA11 fun m12 msA12 =>
 gI .i64 m12 fun Me1 =>
 gC msA12 fun m13 msA13 =>
 gI .i64 m13 fun View1 =>
 gC msA13 fun m14 msA14 =>
 gB m14 fun Has1 =>
 gC msA14 fun m15 msA15 =>
 gI .i64 m15 fun At1 =>
 gC msA15 fun m16 msA16 =>
 gS m16 fun Value1 =>
 gC msA16 fun m17 msA17 =>
 gL m17 fun Proof1 =>
 gC msA17 fun m18 msA18 =>
 gL m18 fun VotesL1 =>
 gN msA18 <|
 gC msA9 fun m19 msA19 =>
 gI .i64 m19 fun x =>
 gN msA19 <|
 bd (
 ifB (!decide (x = 0)) (
 some [.b true]) (
 ifB (decide (View < 0)) (
 some [.b true]) (
 ifB (decide ((100000 : Int) < View)) (
 some [.b true]) (
 bd (dR18Right (.agg [.list VotesL])) fun rA1 =>
 gB rA1 fun x1 =>
 some [.b (!x1)])))) fun vs1 =>
 gC vs1 fun m20 msA20 =>
 gB m20 fun x2 =>
 gN msA20 <|
 ifB x2 (
 some (.b false)) (
 bd (
 ifB Has (
 ifB (decide (At < 0)) (
 some [.b true]) (
 ifB (decide (View < At)) (
 some [.b true]) (
 ifB (decide ((6000 : Int) < (Value.length : Int))) (
 some [.b true]) (
 ifB (!Has) (
 ifB (!decide (At = 0)) (
 some [.b true]) (
 some [.b (!decide (Value = ([] : List UInt8)))])) (
 some [.b false]))))) (
 ifB (!Has) (
 ifB (!decide (At = 0)) (
 some [.b true]) (
 some [.b (!decide (Value = ([] : List UInt8)))])) (
 some [.b false]))) fun vs2 =>
 gC vs2 fun m21 msA21 =>
 gB m21 fun x3 =>
 gN msA21 <|
 ifB x3 (
 some (.b false)) (
 bd (
 lenN Proof fun len =>
 ifB (decide ((0 : Int) < (len : Int))) (
 bd (dR19Right (.agg [.i .i64 SF, .i .i64 ST]) (.list Proof)) fun rA2 =>
 gB rA2 fun x4 =>
 ifB (!x4) (
 some [.b true]) (
 idx Proof 0 fun y =>
 gA y fun cs2 =>
 gC cs2 fun m22 msA22 =>
 gI .i64 m22 fun By =>
 gC msA22 fun m23 msA23 =>
 gI .i64 m23 fun View2 =>
 gC msA23 fun m24 msA24 =>
 gS m24 fun Value2 =>
 gN msA24 <|
 some [.b (decide (View < View2))])) (
 some [.b false])) fun vs3 =>
 gC vs3 fun m25 msA25 =>
 gB m25 fun x5 =>
 gN msA25 <|
 ifB x5 (
 some (.b false)) (
 bd (Loop (fun msA26 =>
 gC msA26 fun m26 msA27 =>
 gI .i64 m26 fun x6 =>
 gN msA27 <|
 lenN VotesL fun len1 =>
 ifB (decide (x6 < (len1 : Int))) (
 bd (
 idx VotesL x6 fun y1 =>
 gA y1 fun cs3 =>
 gC cs3 fun m27 msA28 =>
 gI .i64 m27 fun By1 =>
 gC msA28 fun m28 msA29 =>
 gI .i64 m28 fun View3 =>
 gC msA29 fun m29 msA30 =>
 gS m29 fun Value3 =>
 gN msA30 <|
 bd (dR07N (.agg [.i .i64 SF, .i .i64 ST])) fun rA3 =>
 gI .i64 rA3 fun x7 =>
 ifB (decide (x7 ≤ By1)) (
 some [.b true]) (
 idx VotesL x6 fun y2 =>
 gA y2 fun cs4 =>
 gC cs4 fun m30 msA31 =>
 gI .i64 m30 fun By2 =>
 gC msA31 fun m31 msA32 =>
 gI .i64 m31 fun View4 =>
 gC msA32 fun m32 msA33 =>
 gS m32 fun Value4 =>
 gN msA33 <|
 some [.b (!decide (View4 = View))])) fun vs4 =>
 gC vs4 fun m33 msA34 =>
 gB m33 fun x8 =>
 gN msA34 <|
 ifB x8 (
 some (.inr (1, [.b false]))) (
 some (.inl [.i .i64 (IntKind.wrap .i64 (x6 + 1))]))) (
 some (.inr (2, [])))) [.i .i64 0]) fun p =>
 ifB (Nat.beq p.1 2) (
 gN p.2 <|
 some (.b true)) (
 chk (Nat.beq p.1 1) <|
 gC p.2 fun m34 msA35 =>
 gB m34 fun x9 =>
 gN msA35 <|
 some (.b x9)))))
theorem linkR21Right (a : MV) : bodyK cxR21Right [] none Try.f20 [a] = dR21Right a := by kernel_rfl
noncomputable def gR21Right : Nat → List MV → Option MV := addG 20 (lst1 dR21Right) gR19Right
theorem soundR21Right : SoundG Try.prog cx gR21Right :=
  soundR19Right.fn (c' := cxR21Right) (caps := []) ⟨rfl, rfl, rfl, rfl, rfl, rfl, rfl⟩ rfl tab_ok eq_ok fk_ok mt_ok mix_ok Try.func20 (by kernel_rfl) (fun _ => rfl) (lst1_of linkR21Right)

noncomputable def cxR20One : Ctx := ⟨lookT tiTab, kk, gR21Right, gv, frs, lookN ftyOf, 45, [], [], lookL [], lookF fkTab, lookM mtTab, lookL [], lookH [(1, ⟨[2, 3], [], [], [(0, [(4, .sc (.k .b))])], []⟩)], lookH [], lookH []⟩
noncomputable def dR20One (a b : MV) : Option MV :=
 gA a fun cs =>
 gC cs fun m msA =>
 gI .i64 m fun By =>
 gC msA fun m1 msA1 =>
 gI .i64 m1 fun For =>
 gC msA1 fun m2 msA2 =>
 gB m2 fun Has =>
 gC msA2 fun m3 msA3 =>
 gI .i64 m3 fun View =>
 gC msA3 fun m4 msA4 =>
 gS m4 fun Value =>
 gC msA4 fun m5 msA5 =>
 gL m5 fun Proof =>
 gN msA5 <|
 gA b fun cs1 =>
 gC cs1 fun m6 msA6 =>
 gI .i64 m6 fun By1 =>
 gC msA6 fun m7 msA7 =>
 gI .i64 m7 fun For1 =>
 gC msA7 fun m8 msA8 =>
 gB m8 fun Has1 =>
 gC msA8 fun m9 msA9 =>
 gI .i64 m9 fun View1 =>
 gC msA9 fun m10 msA10 =>
 gS m10 fun Value1 =>
 gC msA10 fun m11 msA11 =>
 gL m11 fun Proof1 =>
 gN msA11 <|
 bd (
 ifB (decide (By = By1)) (
 ifB (decide (For = For1)) (
 ifB (decide (Has = Has1)) (
 ifB (decide (View = View1)) (
 ifB (decide (Value = Value1)) (
 bd (dR18Same (.list Proof) (.list Proof1)) fun rA =>
 gB rA fun x =>
 some [.b x]) (
 some [.b false])) (
 some [.b false])) (
 some [.b false])) (
 some [.b false])) (
 some [.b false])) fun vs =>
 gC vs fun m12 msA12 =>
 gB m12 fun x1 =>
 gN msA12 <|
 some (.b x1)
theorem linkR20One (a b : MV) : bodyK cxR20One [] none Try.f21 [a, b] = dR20One a b := by kernel_rfl
noncomputable def gR20One : Nat → List MV → Option MV := addG 21 (lst2 dR20One) gR21Right
theorem soundR20One : SoundG Try.prog cx gR20One :=
  soundR21Right.fn (c' := cxR20One) (caps := []) ⟨rfl, rfl, rfl, rfl, rfl, rfl, rfl⟩ rfl tab_ok eq_ok fk_ok mt_ok mix_ok Try.func21 (by kernel_rfl) (fun _ => rfl) (lst2_of linkR20One)

noncomputable def cxR21Tell : Ctx := ⟨lookT tiTab, kk, gR20One, gv, frs, lookN ftyOf, 16, [], [], lookL [], lookF fkTab, lookM mtTab, lookL [], lookH [], lookH [], lookH []⟩
noncomputable def dR21Tell (a : MV) : Option MV :=
 gA a fun cs =>
 gC cs fun m msA =>
 gI .i64 m fun SF =>
 gC msA fun m1 msA1 =>
 gI .i64 m1 fun ST =>
 gC msA1 fun m2 msA2 =>
 gI .i64 m2 fun Me =>
 gC msA2 fun m3 msA3 =>
 gI .i64 m3 fun View =>
 gC msA3 fun m4 msA4 =>
 gB m4 fun Has =>
 gC msA4 fun m5 msA5 =>
 gI .i64 m5 fun At =>
 gC msA5 fun m6 msA6 =>
 gS m6 fun Value =>
 gC msA6 fun m7 msA7 =>
 gL m7 fun Proof =>
 gC msA7 fun m8 msA8 =>
 gL m8 fun VotesL =>
 gN msA8 <|
 some (.agg [.i .i64 Me, .i .i64 View, .b Has, .i .i64 At, .s Value, .list Proof])
theorem linkR21Tell (a : MV) : bodyK cxR21Tell [] none Try.f23 [a] = dR21Tell a := by kernel_rfl
noncomputable def gR21Tell : Nat → List MV → Option MV := addG 23 (lst1 dR21Tell) gR20One
theorem soundR21Tell : SoundG Try.prog cx gR21Tell :=
  soundR20One.fn (c' := cxR21Tell) (caps := []) ⟨rfl, rfl, rfl, rfl, rfl, rfl, rfl⟩ rfl tab_ok eq_ok fk_ok mt_ok mix_ok Try.func23 (by kernel_rfl) (fun _ => rfl) (lst1_of linkR21Tell)

noncomputable def cxL21AcceptorMay : Ctx := ⟨lookT tiTab, kk, gR21Tell, gv, frs, lookN ftyOf, 76, [], [], lookL [], lookF fkTab, lookM mtTab, lookL [(5, [0, 2, 1, 3, 4, 5, 6, 7, 8, 9, 10, 11, 13, 15, 12, 14, 16, 17, 18, 19, 20]), (6, [0, 1, 2, 3, 4, 5, 7, 6, 8, 9, 10, 11, 12, 13, 15, 14, 16, 17, 18, 19, 20])], lookH [(6, ⟨[3, 11], [], [], [(0, [(6, .sc (.k .b))])], []⟩), (5, ⟨[3, 4, 7, 8, 9, 10], [], [], [(0, [(11, .sc (.k .b))])], []⟩), (1, ⟨[2, 3, 4], [], [], [(0, [(19, .sc (.k .b))])], []⟩)], lookH [], lookH []⟩
noncomputable def dL21AcceptorMay (a a1 a2 : MV) : Option MV :=
 gA a fun cs =>
 gC cs fun m msA =>
 gI .i64 m fun SF =>
 gC msA fun m1 msA1 =>
 gI .i64 m1 fun ST =>
 gC msA1 fun m2 msA2 =>
 gI .i64 m2 fun Me =>
 gC msA2 fun m3 msA3 =>
 gI .i64 m3 fun View =>
 gC msA3 fun m4 msA4 =>
 gB m4 fun Has =>
 gC msA4 fun m5 msA5 =>
 gI .i64 m5 fun At =>
 gC msA5 fun m6 msA6 =>
 gS m6 fun Value =>
 gC msA6 fun m7 msA7 =>
 gL m7 fun Proof =>
 gC msA7 fun m8 msA8 =>
 gL m8 fun VotesL =>
 gN msA8 <|
 gA a1 fun cs1 =>
 gC cs1 fun m9 msA9 =>
 gI .i64 m9 fun SF1 =>
 gC msA9 fun m10 msA10 =>
 gI .i64 m10 fun ST1 =>
 gC msA10 fun m11 msA11 =>
 gI .i64 m11 fun Me1 =>
 gC msA11 fun m12 msA12 =>
 gI .i64 m12 fun View1 =>
 gC msA12 fun m13 msA13 =>
 gB m13 fun Has1 =>
 gC msA13 fun m14 msA14 =>
 gI .i64 m14 fun At1 =>
 gC msA14 fun m15 msA15 =>
 gS m15 fun Value1 =>
 gC msA15 fun m16 msA16 =>
 gL m16 fun Proof1 =>
 gC msA16 fun m17 msA17 =>
 gL m17 fun VotesL1 =>
 gN msA17 <|
 gI .i64 a2 fun a2N1 =>
 bd (
 bd (dL21Few (.agg [.i .i64 SF, .i .i64 ST, .i .i64 Me, .i .i64 View, .b Has, .i .i64 At, .s Value, .list Proof, .list VotesL])) fun rA =>
 gB rA fun x =>
 ifB (!x) (
 some [.b true]) (
 bd (dL21Few (.agg [.i .i64 SF1, .i .i64 ST1, .i .i64 Me1, .i .i64 View1, .b Has1, .i .i64 At1, .s Value1, .list Proof1, .list VotesL1])) fun rA1 =>
 gB rA1 fun x1 =>
 some [.b (!x1)])) fun vs =>
 gC vs fun m18 msA18 =>
 gB m18 fun x2 =>
 gN msA18 <|
 ifB x2 (
 bd (dL21Alive) fun rA2 =>
 gB rA2 fun x3 =>
 some (.b x3)) (
 bd (dAcceptorNew (.agg [.i .i64 SF, .i .i64 ST]) (.i .i64 a2N1)) fun rA3 =>
 gT rA3 fun vs1 =>
 gC vs1 fun m19 msA19 =>
 gA m19 fun cs2 =>
 gC cs2 fun m20 msA20 =>
 gI .i64 m20 fun SF2 =>
 gC msA20 fun m21 msA21 =>
 gI .i64 m21 fun ST2 =>
 gC msA21 fun m22 msA22 =>
 gI .i64 m22 fun Me2 =>
 gC msA22 fun m23 msA23 =>
 gI .i64 m23 fun View2 =>
 gC msA23 fun m24 msA24 =>
 gB m24 fun Has2 =>
 gC msA24 fun m25 msA25 =>
 gI .i64 m25 fun At2 =>
 gC msA25 fun m26 msA26 =>
 gS m26 fun Value2 =>
 gC msA26 fun m27 msA27 =>
 gL m27 fun Proof2 =>
 gC msA27 fun m28 msA28 =>
 gL m28 fun VotesL2 =>
 gN msA28 <|
 gC msA19 fun m29 msA29 =>
 gI .i64 m29 fun x4 =>
 gN msA29 <|
 bd (dL21Sized (.agg [.i .i64 SF, .i .i64 ST])) fun rA4 =>
 gA rA4 fun cs3 =>
 gC cs3 fun m30 msA30 =>
 gI .i64 m30 fun F =>
 gC msA30 fun m31 msA31 =>
 gI .i64 m31 fun T =>
 gN msA31 <|
 bd (dR21New (.agg [.i .i64 F, .i .i64 T]) (.i .i64 a2N1)) fun rA5 =>
 gT rA5 fun vs2 =>
 gC vs2 fun m32 msA32 =>
 gA m32 fun cs4 =>
 gC cs4 fun m33 msA33 =>
 gI .i64 m33 fun SF3 =>
 gC msA33 fun m34 msA34 =>
 gI .i64 m34 fun ST3 =>
 gC msA34 fun m35 msA35 =>
 gI .i64 m35 fun Me3 =>
 gC msA35 fun m36 msA36 =>
 gI .i64 m36 fun View3 =>
 gC msA36 fun m37 msA37 =>
 gB m37 fun Has3 =>
 gC msA37 fun m38 msA38 =>
 gI .i64 m38 fun At3 =>
 gC msA38 fun m39 msA39 =>
 gS m39 fun Value3 =>
 gC msA39 fun m40 msA40 =>
 gL m40 fun Proof3 =>
 gC msA40 fun m41 msA41 =>
 gL m41 fun VotesL3 =>
 gN msA41 <|
 gC msA32 fun m42 msA42 =>
 gI .i64 m42 fun x5 =>
 gN msA42 <|
 bd (
 bd (dL21Plain (.agg [.i .i64 SF2, .i .i64 ST2, .i .i64 Me2, .i .i64 View2, .b Has2, .i .i64 At2, .s Value2, .list Proof2, .list VotesL2])) fun rA6 =>
 gA rA6 fun cs5 =>
 gC cs5 fun m43 msA43 =>
 gI .i64 m43 fun SF4 =>
 gC msA43 fun m44 msA44 =>
 gI .i64 m44 fun ST4 =>
 gC msA44 fun m45 msA45 =>
 gI .i64 m45 fun Me4 =>
 gC msA45 fun m46 msA46 =>
 gI .i64 m46 fun View4 =>
 gC msA46 fun m47 msA47 =>
 gB m47 fun Has4 =>
 gC msA47 fun m48 msA48 =>
 gI .i64 m48 fun At4 =>
 gC msA48 fun m49 msA49 =>
 gS m49 fun Value4 =>
 gC msA49 fun m50 msA50 =>
 gL m50 fun Proof4 =>
 gC msA50 fun m51 msA51 =>
 gL m51 fun VotesL4 =>
 gN msA51 <|
 bd (dR21Same (.agg [.i .i64 SF4, .i .i64 ST4, .i .i64 Me4, .i .i64 View4, .b Has4, .i .i64 At4, .s Value4, .list Proof4, .list VotesL4]) (.agg [.i .i64 SF3, .i .i64 ST3, .i .i64 Me3, .i .i64 View3, .b Has3, .i .i64 At3, .s Value3, .list Proof3, .list VotesL3])) fun rA7 =>
 gB rA7 fun x6 =>
 ifB x6 (
 ifB (decide (x4 = x5)) (
 bd (dAcceptorSame (.agg [.i .i64 SF, .i .i64 ST, .i .i64 Me, .i .i64 View, .b Has, .i .i64 At, .s Value, .list Proof, .list VotesL]) (.agg [.i .i64 SF1, .i .i64 ST1, .i .i64 Me1, .i .i64 View1, .b Has1, .i .i64 At1, .s Value1, .list Proof1, .list VotesL1])) fun rA8 =>
 gB rA8 fun x7 =>
 bd (dL21Plain (.agg [.i .i64 SF, .i .i64 ST, .i .i64 Me, .i .i64 View, .b Has, .i .i64 At, .s Value, .list Proof, .list VotesL])) fun rA9 =>
 gA rA9 fun cs6 =>
 gC cs6 fun m52 msA52 =>
 gI .i64 m52 fun SF5 =>
 gC msA52 fun m53 msA53 =>
 gI .i64 m53 fun ST5 =>
 gC msA53 fun m54 msA54 =>
 gI .i64 m54 fun Me5 =>
 gC msA54 fun m55 msA55 =>
 gI .i64 m55 fun View5 =>
 gC msA55 fun m56 msA56 =>
 gB m56 fun Has5 =>
 gC msA56 fun m57 msA57 =>
 gI .i64 m57 fun At5 =>
 gC msA57 fun m58 msA58 =>
 gS m58 fun Value5 =>
 gC msA58 fun m59 msA59 =>
 gL m59 fun Proof5 =>
 gC msA59 fun m60 msA60 =>
 gL m60 fun VotesL5 =>
 gN msA60 <|
 bd (dL21Plain (.agg [.i .i64 SF1, .i .i64 ST1, .i .i64 Me1, .i .i64 View1, .b Has1, .i .i64 At1, .s Value1, .list Proof1, .list VotesL1])) fun rA10 =>
 gA rA10 fun cs7 =>
 gC cs7 fun m61 msA61 =>
 gI .i64 m61 fun SF6 =>
 gC msA61 fun m62 msA62 =>
 gI .i64 m62 fun ST6 =>
 gC msA62 fun m63 msA63 =>
 gI .i64 m63 fun Me6 =>
 gC msA63 fun m64 msA64 =>
 gI .i64 m64 fun View6 =>
 gC msA64 fun m65 msA65 =>
 gB m65 fun Has6 =>
 gC msA65 fun m66 msA66 =>
 gI .i64 m66 fun At6 =>
 gC msA66 fun m67 msA67 =>
 gS m67 fun Value6 =>
 gC msA67 fun m68 msA68 =>
 gL m68 fun Proof6 =>
 gC msA68 fun m69 msA69 =>
 gL m69 fun VotesL6 =>
 gN msA69 <|
 bd (dR21Same (.agg [.i .i64 SF5, .i .i64 ST5, .i .i64 Me5, .i .i64 View5, .b Has5, .i .i64 At5, .s Value5, .list Proof5, .list VotesL5]) (.agg [.i .i64 SF6, .i .i64 ST6, .i .i64 Me6, .i .i64 View6, .b Has6, .i .i64 At6, .s Value6, .list Proof6, .list VotesL6])) fun rA11 =>
 gB rA11 fun x8 =>
 some [.b (decide (x7 = x8))]) (
 some [.b false])) (
 some [.b false])) fun vs3 =>
 gC vs3 fun m70 msA70 =>
 gB m70 fun x9 =>
 gN msA70 <|
 bd (
 bd (dL21Alive) fun rA12 =>
 gB rA12 fun x10 =>
 ifB x10 (
 ifB x9 (
 bd (dAcceptorRight (.agg [.i .i64 SF, .i .i64 ST, .i .i64 Me, .i .i64 View, .b Has, .i .i64 At, .s Value, .list Proof, .list VotesL])) fun rA13 =>
 gB rA13 fun x11 =>
 bd (dL21Plain (.agg [.i .i64 SF, .i .i64 ST, .i .i64 Me, .i .i64 View, .b Has, .i .i64 At, .s Value, .list Proof, .list VotesL])) fun rA14 =>
 gA rA14 fun cs8 =>
 gC cs8 fun m71 msA71 =>
 gI .i64 m71 fun SF7 =>
 gC msA71 fun m72 msA72 =>
 gI .i64 m72 fun ST7 =>
 gC msA72 fun m73 msA73 =>
 gI .i64 m73 fun Me7 =>
 gC msA73 fun m74 msA74 =>
 gI .i64 m74 fun View7 =>
 gC msA74 fun m75 msA75 =>
 gB m75 fun Has7 =>
 gC msA75 fun m76 msA76 =>
 gI .i64 m76 fun At7 =>
 gC msA76 fun m77 msA77 =>
 gS m77 fun Value7 =>
 gC msA77 fun m78 msA78 =>
 gL m78 fun Proof7 =>
 gC msA78 fun m79 msA79 =>
 gL m79 fun VotesL7 =>
 gN msA79 <|
 bd (dR21Right (.agg [.i .i64 SF7, .i .i64 ST7, .i .i64 Me7, .i .i64 View7, .b Has7, .i .i64 At7, .s Value7, .list Proof7, .list VotesL7])) fun rA15 =>
 gB rA15 fun x12 =>
 ifB (decide (x11 = x12)) (
 bd (dAcceptorTell (.agg [.i .i64 SF, .i .i64 ST, .i .i64 Me, .i .i64 View, .b Has, .i .i64 At, .s Value, .list Proof, .list VotesL])) fun rA16 =>
 gA rA16 fun cs9 =>
 gC cs9 fun m80 msA80 =>
 gI .i64 m80 fun By =>
 gC msA80 fun m81 msA81 =>
 gI .i64 m81 fun For =>
 gC msA81 fun m82 msA82 =>
 gB m82 fun Has8 =>
 gC msA82 fun m83 msA83 =>
 gI .i64 m83 fun View8 =>
 gC msA83 fun m84 msA84 =>
 gS m84 fun Value8 =>
 gC msA84 fun m85 msA85 =>
 gL m85 fun Proof8 =>
 gN msA85 <|
 bd (dL21Plain (.agg [.i .i64 SF, .i .i64 ST, .i .i64 Me, .i .i64 View, .b Has, .i .i64 At, .s Value, .list Proof, .list VotesL])) fun rA17 =>
 gA rA17 fun cs10 =>
 gC cs10 fun m86 msA86 =>
 gI .i64 m86 fun SF8 =>
 gC msA86 fun m87 msA87 =>
 gI .i64 m87 fun ST8 =>
 gC msA87 fun m88 msA88 =>
 gI .i64 m88 fun Me8 =>
 gC msA88 fun m89 msA89 =>
 gI .i64 m89 fun View9 =>
 gC msA89 fun m90 msA90 =>
 gB m90 fun Has9 =>
 gC msA90 fun m91 msA91 =>
 gI .i64 m91 fun At8 =>
 gC msA91 fun m92 msA92 =>
 gS m92 fun Value9 =>
 gC msA92 fun m93 msA93 =>
 gL m93 fun Proof9 =>
 gC msA93 fun m94 msA94 =>
 gL m94 fun VotesL8 =>
 gN msA94 <|
 bd (dR21Tell (.agg [.i .i64 SF8, .i .i64 ST8, .i .i64 Me8, .i .i64 View9, .b Has9, .i .i64 At8, .s Value9, .list Proof9, .list VotesL8])) fun rA18 =>
 gA rA18 fun cs11 =>
 gC cs11 fun m95 msA95 =>
 gI .i64 m95 fun By1 =>
 gC msA95 fun m96 msA96 =>
 gI .i64 m96 fun For1 =>
 gC msA96 fun m97 msA97 =>
 gB m97 fun Has10 =>
 gC msA97 fun m98 msA98 =>
 gI .i64 m98 fun View10 =>
 gC msA98 fun m99 msA99 =>
 gS m99 fun Value10 =>
 gC msA99 fun m100 msA100 =>
 gL m100 fun Proof10 =>
 gN msA100 <|
 bd (dR20One (.agg [.i .i64 By, .i .i64 For, .b Has8, .i .i64 View8, .s Value8, .list Proof8]) (.agg [.i .i64 By1, .i .i64 For1, .b Has10, .i .i64 View10, .s Value10, .list Proof10])) fun rA19 =>
 gB rA19 fun x13 =>
 some [.b x13]) (
 some [.b false])) (
 some [.b false])) (
 some [.b false])) fun vs4 =>
 gC vs4 fun m101 msA101 =>
 gB m101 fun x14 =>
 gN msA101 <|
 some (.b x14))
theorem linkL21AcceptorMay (a a1 a2 : MV) : bodyK cxL21AcceptorMay [] none Try.f3 [a, a1, a2] = dL21AcceptorMay a a1 a2 := by kernel_rfl
noncomputable def gL21AcceptorMay : Nat → List MV → Option MV := addG 3 (lst3 dL21AcceptorMay) gR21Tell
theorem soundL21AcceptorMay : SoundG Try.prog cx gL21AcceptorMay :=
  soundR21Tell.fn (c' := cxL21AcceptorMay) (caps := []) ⟨rfl, rfl, rfl, rfl, rfl, rfl, rfl⟩ rfl tab_ok eq_ok fk_ok mt_ok mix_ok Try.func3 (by kernel_rfl) (fun _ => rfl) (lst3_of linkL21AcceptorMay)

noncomputable def cxL21Short : Ctx := ⟨lookT tiTab, kk, gL21AcceptorMay, gv, frs, lookN ftyOf, 30, [], [], lookL [], lookF fkTab, lookM mtTab, lookL [], lookH [(4, ⟨[0, 3], [], [], [(0, [(29, .sc (.k .b))])], []⟩)], lookH [], lookH [(2, ⟨[0], [], [(3, .sc (.k (.i .i64)))], [(1, [(2, .sc (.k .b))]), (2, [])], []⟩)]⟩
noncomputable def dL21Short (lA : MV) : Option MV :=
 gL lA fun lA1 =>
 bd (Loop (fun msA =>
 gC msA fun m msA1 =>
 gI .i64 m fun i =>
 gN msA1 <|
 lenN lA1 fun len =>
 ifB (decide (i < (len : Int))) (
 bd (
 ifB (decide (i = 30)) (
 some [.b true]) (
 idx lA1 i fun y =>
 gA y fun cs =>
 gC cs fun m1 msA2 =>
 gI .i64 m1 fun By =>
 gC msA2 fun m2 msA3 =>
 gI .i64 m2 fun For =>
 gC msA3 fun m3 msA4 =>
 gB m3 fun Has =>
 gC msA4 fun m4 msA5 =>
 gI .i64 m4 fun View =>
 gC msA5 fun m5 msA6 =>
 gS m5 fun Value =>
 gC msA6 fun m6 msA7 =>
 gL m6 fun Proof =>
 gN msA7 <|
 ifB (decide ((6100 : Int) < (Value.length : Int))) (
 some [.b true]) (
 idx lA1 i fun y1 =>
 gA y1 fun cs1 =>
 gC cs1 fun m7 msA8 =>
 gI .i64 m7 fun By1 =>
 gC msA8 fun m8 msA9 =>
 gI .i64 m8 fun For1 =>
 gC msA9 fun m9 msA10 =>
 gB m9 fun Has1 =>
 gC msA10 fun m10 msA11 =>
 gI .i64 m10 fun View1 =>
 gC msA11 fun m11 msA12 =>
 gS m11 fun Value1 =>
 gC msA12 fun m12 msA13 =>
 gL m12 fun Proof1 =>
 gN msA13 <|
 bd (dL21Votes (.list Proof1)) fun rA =>
 gB rA fun x =>
 some [.b (!x)]))) fun vs =>
 gC vs fun m13 msA14 =>
 gB m13 fun x1 =>
 gN msA14 <|
 ifB x1 (
 some (.inr (1, [.b false]))) (
 some (.inl [.i .i64 (IntKind.wrap .i64 (i + 1))]))) (
 some (.inr (2, [])))) [.i .i64 0]) fun p =>
 ifB (Nat.beq p.1 2) (
 gN p.2 <|
 some (.b true)) (
 chk (Nat.beq p.1 1) <|
 gC p.2 fun m14 msA15 =>
 gB m14 fun x2 =>
 gN msA15 <|
 some (.b x2))
theorem linkL21Short (lA : MV) : bodyK cxL21Short [] none Try.f51 [lA] = dL21Short lA := by kernel_rfl
noncomputable def gL21Short : Nat → List MV → Option MV := addG 51 (lst1 dL21Short) gL21AcceptorMay
theorem soundL21Short : SoundG Try.prog cx gL21Short :=
  soundL21AcceptorMay.fn (c' := cxL21Short) (caps := []) ⟨rfl, rfl, rfl, rfl, rfl, rfl, rfl⟩ rfl tab_ok eq_ok fk_ok mt_ok mix_ok Try.func51 (by kernel_rfl) (fun _ => rfl) (lst1_of linkL21Short)

noncomputable def cxR21Enter : Ctx := ⟨lookT tiTab, kk, gL21Short, gv, frs, lookN ftyOf, 35, [], [], lookL [], lookF fkTab, lookM mtTab, lookL [(4, [0, 1, 2, 3, 4, 5])], lookH [(1, ⟨[1, 2, 4, 5], [], [], [(0, [(15, .sc (.k .b))])], []⟩)], lookH [], lookH []⟩
noncomputable def dR21Enter (a view : MV) : Option MV :=
 gA a fun cs =>
 gC cs fun m msA =>
 gI .i64 m fun SF =>
 gC msA fun m1 msA1 =>
 gI .i64 m1 fun ST =>
 gC msA1 fun m2 msA2 =>
 gI .i64 m2 fun Me =>
 gC msA2 fun m3 msA3 =>
 gI .i64 m3 fun View =>
 gC msA3 fun m4 msA4 =>
 gB m4 fun Has =>
 gC msA4 fun m5 msA5 =>
 gI .i64 m5 fun At =>
 gC msA5 fun m6 msA6 =>
 gS m6 fun Value =>
 gC msA6 fun m7 msA7 =>
 gL m7 fun Proof =>
 gC msA7 fun m8 msA8 =>
 gL m8 fun VotesL =>
 gN msA8 <|
 gI .i64 view fun view1 =>
 bd (
 ifB (decide (view1 ≤ View)) (
 some [.b true]) (
 some [.b (decide ((100000 : Int) < view1))])) fun vs =>
 gC vs fun m9 msA9 =>
 gB m9 fun x =>
 gN msA9 <|
 ifB x (
 some (.tup [.agg [.i .i64 SF, .i .i64 ST, .i .i64 Me, .i .i64 View, .b Has, .i .i64 At, .s Value, .list Proof, .list VotesL], .agg [.i .i64 0, .i .i64 0, .b false, .i .i64 0, .s ([] : List UInt8), .list ([] : List MV)], .b false])) (
 bd (dR21Tell (.agg [.i .i64 SF, .i .i64 ST, .i .i64 Me, .i .i64 view1, .b Has, .i .i64 At, .s Value, .list Proof, .list ([] : List MV)])) fun rA =>
 gA rA fun cs1 =>
 gC cs1 fun m10 msA10 =>
 gI .i64 m10 fun By =>
 gC msA10 fun m11 msA11 =>
 gI .i64 m11 fun For =>
 gC msA11 fun m12 msA12 =>
 gB m12 fun Has1 =>
 gC msA12 fun m13 msA13 =>
 gI .i64 m13 fun View1 =>
 gC msA13 fun m14 msA14 =>
 gS m14 fun Value1 =>
 gC msA14 fun m15 msA15 =>
 gL m15 fun Proof1 =>
 gN msA15 <|
 some (.tup [.agg [.i .i64 SF, .i .i64 ST, .i .i64 Me, .i .i64 view1, .b Has, .i .i64 At, .s Value, .list Proof, .list ([] : List MV)], .agg [.i .i64 By, .i .i64 For, .b Has1, .i .i64 View1, .s Value1, .list Proof1], .b true]))
theorem linkR21Enter (a view : MV) : bodyK cxR21Enter [] none Try.f53 [a, view] = dR21Enter a view := by kernel_rfl
noncomputable def gR21Enter : Nat → List MV → Option MV := addG 53 (lst2 dR21Enter) gL21Short
theorem soundR21Enter : SoundG Try.prog cx gR21Enter :=
  soundL21Short.fn (c' := cxR21Enter) (caps := []) ⟨rfl, rfl, rfl, rfl, rfl, rfl, rfl⟩ rfl tab_ok eq_ok fk_ok mt_ok mix_ok Try.func53 (by kernel_rfl) (fun _ => rfl) (lst2_of linkR21Enter)

noncomputable def cxR07Most : Ctx := ⟨lookT tiTab, kk, gR21Enter, gv, frs, lookN ftyOf, 11, [], [], lookL [], lookF fkTab, lookM mtTab, lookL [], lookH [], lookH [], lookH []⟩
noncomputable def dR07Most (sA : MV) : Option MV :=
 gA sA fun cs =>
 gC cs fun m msA =>
 gI .i64 m fun F =>
 gC msA fun m1 msA1 =>
 gI .i64 m1 fun T =>
 gN msA1 <|
 some (.i .i64 (IntKind.wrap .i64 ((IntKind.wrap .i64 ((IntKind.wrap .i64 (2 * F)) + (IntKind.wrap .i64 (2 * T)))) + 1)))
theorem linkR07Most (sA : MV) : bodyK cxR07Most [] none Try.f121 [sA] = dR07Most sA := by kernel_rfl
noncomputable def gR07Most : Nat → List MV → Option MV := addG 121 (lst1 dR07Most) gR21Enter
theorem soundR07Most : SoundG Try.prog cx gR07Most :=
  soundR21Enter.fn (c' := cxR07Most) (caps := []) ⟨rfl, rfl, rfl, rfl, rfl, rfl, rfl⟩ rfl tab_ok eq_ok fk_ok mt_ok mix_ok Try.func121 (by kernel_rfl) (fun _ => rfl) (lst1_of linkR07Most)

noncomputable def cxR20May : Ctx := ⟨lookT tiTab, kk, gR07Most, gv, frs, lookN ftyOf, 85, [], [], lookL [], lookF fkTab, lookM mtTab, lookL [(1, [0, 1, 2, 3, 4, 5, 6, 7, 8, 9, 10, 11, 12, 13, 14, 15, 16, 17, 18, 19, 20, 21, 22, 23, 24]), (5, [0, 1, 2, 3, 4, 5, 6, 7, 8, 9, 10, 11, 12, 13, 14, 15, 16, 17, 18, 19, 20])], lookH [(5, ⟨[2, 3], [], [], [(0, [(4, .sc (.k .b))])], []⟩), (3, ⟨[2, 3], [], [], [(0, [(64, .sc (.k .b))])], []⟩), (1, ⟨[2, 3], [], [], [(0, [(29, .sc (.k .b))])], []⟩)], lookH [], lookH []⟩
noncomputable def dR20May (a a1 : MV) : Option MV :=
 gA a fun cs =>
 gC cs fun m msA =>
 gI .i64 m fun F =>
 gC msA fun m1 msA1 =>
 gI .i64 m1 fun T =>
 gN msA1 <|
 gA a1 fun cs1 =>
 gC cs1 fun m2 msA2 =>
 gI .i64 m2 fun By =>
 gC msA2 fun m3 msA3 =>
 gI .i64 m3 fun For =>
 gC msA3 fun m4 msA4 =>
 gB m4 fun Has =>
 gC msA4 fun m5 msA5 =>
 gI .i64 m5 fun View =>
 gC msA5 fun m6 msA6 =>
 gS m6 fun Value =>
 gC msA6 fun m7 msA7 =>
 gL m7 fun Proof =>
 gN msA7 <|
 bd (
 bd (dR07Right (.agg [.i .i64 F, .i .i64 T])) fun rA =>
 gB rA fun x =>
 ifB (!x) (
 some [.b true]) (
 ifB (decide (By < 0)) (
 some [.b true]) (
 bd (dR07N (.agg [.i .i64 F, .i .i64 T])) fun rA1 =>
 gI .i64 rA1 fun x1 =>
 ifB (decide (x1 ≤ By)) (
 some [.b true]) (
 ifB (decide (For < 1)) (
 some [.b true]) (
 some [.b (decide ((100000 : Int) < For))]))))) fun vs =>
 gC vs fun m8 msA8 =>
 gB m8 fun x2 =>
 gN msA8 <|
 ifB x2 (
 some (.b false)) (
 bd (
 ifB Has (
 ifB (decide (View < 0)) (
 some [.b true]) (
 ifB (decide (For ≤ View)) (
 some [.b true]) (
 ifB (decide ((6000 : Int) < (Value.length : Int))) (
 some [.b true]) (
 ifB (!Has) (
 ifB (!decide (View = 0)) (
 some [.b true]) (
 some [.b (!decide (Value = ([] : List UInt8)))])) (
 some [.b false]))))) (
 ifB (!Has) (
 ifB (!decide (View = 0)) (
 some [.b true]) (
 some [.b (!decide (Value = ([] : List UInt8)))])) (
 some [.b false]))) fun vs1 =>
 gC vs1 fun m9 msA9 =>
 gB m9 fun x3 =>
 gN msA9 <|
 ifB x3 (
 some (.b false)) (
 bd (
 lenN Proof fun len =>
 ifB (decide ((len : Int) = 0)) (
 some [.b true]) (
 bd (dR19Right (.agg [.i .i64 F, .i .i64 T]) (.list Proof)) fun rA2 =>
 gB rA2 fun x4 =>
 ifB x4 (
 idx Proof 0 fun y =>
 gA y fun cs2 =>
 gC cs2 fun m10 msA10 =>
 gI .i64 m10 fun By1 =>
 gC msA10 fun m11 msA11 =>
 gI .i64 m11 fun View1 =>
 gC msA11 fun m12 msA12 =>
 gS m12 fun Value1 =>
 gN msA12 <|
 some [.b (decide (View1 < For))]) (
 some [.b false]))) fun vs2 =>
 gC vs2 fun m13 msA13 =>
 gB m13 fun x5 =>
 gN msA13 <|
 some (.b x5)))
theorem linkR20May (a a1 : MV) : bodyK cxR20May [] none Try.f122 [a, a1] = dR20May a a1 := by kernel_rfl
noncomputable def gR20May : Nat → List MV → Option MV := addG 122 (lst2 dR20May) gR07Most
theorem soundR20May : SoundG Try.prog cx gR20May :=
  soundR07Most.fn (c' := cxR20May) (caps := []) ⟨rfl, rfl, rfl, rfl, rfl, rfl, rfl⟩ rfl tab_ok eq_ok fk_ok mt_ok mix_ok Try.func122 (by kernel_rfl) (fun _ => rfl) (lst2_of linkR20May)

noncomputable def cxR20Right : Ctx := ⟨lookT tiTab, kk, gR20May, gv, frs, lookN ftyOf, 58, [], [], lookL [], lookF fkTab, lookM mtTab, lookL [(6, [0, 1, 2, 3, 4, 5, 6, 7, 8, 9, 10, 11, 12, 13, 14, 15, 16, 17, 18, 19, 20, 21, 22, 23, 24, 25, 26, 27, 28, 29, 30, 31, 32, 33])], lookH [(6, ⟨[1, 2, 3, 7], [], [], [(0, [(57, .sc (.k .b))])], []⟩), (1, ⟨[1, 2, 3], [], [], [(0, [(17, .sc (.k .b))])], []⟩)], lookH [], lookH [(4, ⟨[1, 2, 3], [], [(7, .sc (.k (.i .i64)))], [(1, [(6, .sc (.k .b))]), (2, [])], []⟩)]⟩
noncomputable def dR20Right (sA view lA : MV) : Option MV :=
 gA sA fun cs =>
 gC cs fun m msA =>
 gI .i64 m fun F =>
 gC msA fun m1 msA1 =>
 gI .i64 m1 fun T =>
 gN msA1 <|
 gI .i64 view fun view1 =>
 gL lA fun lA1 =>
 bd (
 bd (dR07Right (.agg [.i .i64 F, .i .i64 T])) fun rA =>
 gB rA fun x =>
 ifB (!x) (
 some [.b true]) (
 lenN lA1 fun len =>
 bd (dR07Most (.agg [.i .i64 F, .i .i64 T])) fun rA1 =>
 gI .i64 rA1 fun x1 =>
 some [.b (!decide ((len : Int) = x1))])) fun vs =>
 gC vs fun m2 msA2 =>
 gB m2 fun x2 =>
 gN msA2 <|
 ifB x2 (
 some (.b false)) (
 bd (Loop (fun msA3 =>
 gC msA3 fun m3 msA4 =>
 gI .i64 m3 fun i =>
 gN msA4 <|
 lenN lA1 fun len1 =>
 ifB (decide (i < (len1 : Int))) (
 bd (
 idx lA1 i fun y =>
 gA y fun cs1 =>
 gC cs1 fun m4 msA5 =>
 gI .i64 m4 fun By =>
 gC msA5 fun m5 msA6 =>
 gI .i64 m5 fun For =>
 gC msA6 fun m6 msA7 =>
 gB m6 fun Has =>
 gC msA7 fun m7 msA8 =>
 gI .i64 m7 fun View =>
 gC msA8 fun m8 msA9 =>
 gS m8 fun Value =>
 gC msA9 fun m9 msA10 =>
 gL m9 fun Proof =>
 gN msA10 <|
 bd (dR20May (.agg [.i .i64 F, .i .i64 T]) (.agg [.i .i64 By, .i .i64 For, .b Has, .i .i64 View, .s Value, .list Proof])) fun rA2 =>
 gB rA2 fun x3 =>
 ifB (!x3) (
 some [.b true]) (
 idx lA1 i fun y1 =>
 gA y1 fun cs2 =>
 gC cs2 fun m10 msA11 =>
 gI .i64 m10 fun By1 =>
 gC msA11 fun m11 msA12 =>
 gI .i64 m11 fun For1 =>
 gC msA12 fun m12 msA13 =>
 gB m12 fun Has1 =>
 gC msA13 fun m13 msA14 =>
 gI .i64 m13 fun View1 =>
 gC msA14 fun m14 msA15 =>
 gS m14 fun Value1 =>
 gC msA15 fun m15 msA16 =>
 gL m15 fun Proof1 =>
 gN msA16 <|
 ifB (!decide (For1 = view1)) (
 some [.b true]) (
 ifB (decide ((0 : Int) < i)) (
 idx lA1 (IntKind.wrap .i64 (i - 1)) fun y2 =>
 gA y2 fun cs3 =>
 gC cs3 fun m16 msA17 =>
 gI .i64 m16 fun By2 =>
 gC msA17 fun m17 msA18 =>
 gI .i64 m17 fun For2 =>
 gC msA18 fun m18 msA19 =>
 gB m18 fun Has2 =>
 gC msA19 fun m19 msA20 =>
 gI .i64 m19 fun View2 =>
 gC msA20 fun m20 msA21 =>
 gS m20 fun Value2 =>
 gC msA21 fun m21 msA22 =>
 gL m21 fun Proof2 =>
 gN msA22 <|
 idx lA1 i fun y3 =>
 gA y3 fun cs4 =>
 gC cs4 fun m22 msA23 =>
 gI .i64 m22 fun By3 =>
 gC msA23 fun m23 msA24 =>
 gI .i64 m23 fun For3 =>
 gC msA24 fun m24 msA25 =>
 gB m24 fun Has3 =>
 gC msA25 fun m25 msA26 =>
 gI .i64 m25 fun View3 =>
 gC msA26 fun m26 msA27 =>
 gS m26 fun Value3 =>
 gC msA27 fun m27 msA28 =>
 gL m27 fun Proof3 =>
 gN msA28 <|
 some [.b (decide (By3 ≤ By2))]) (
 some [.b false])))) fun vs1 =>
 gC vs1 fun m28 msA29 =>
 gB m28 fun x4 =>
 gN msA29 <|
 ifB x4 (
 some (.inr (1, [.b false]))) (
 some (.inl [.i .i64 (IntKind.wrap .i64 (i + 1))]))) (
 some (.inr (2, [])))) [.i .i64 0]) fun p =>
 ifB (Nat.beq p.1 2) (
 gN p.2 <|
 some (.b true)) (
 chk (Nat.beq p.1 1) <|
 gC p.2 fun m29 msA30 =>
 gB m29 fun x5 =>
 gN msA30 <|
 some (.b x5)))
theorem linkR20Right (sA view lA : MV) : bodyK cxR20Right [] none Try.f99 [sA, view, lA] = dR20Right sA view lA := by kernel_rfl
noncomputable def gR20Right : Nat → List MV → Option MV := addG 99 (lst3 dR20Right) gR20May
theorem soundR20Right : SoundG Try.prog cx gR20Right :=
  soundR20May.fn (c' := cxR20Right) (caps := []) ⟨rfl, rfl, rfl, rfl, rfl, rfl, rfl⟩ rfl tab_ok eq_ok fk_ok mt_ok mix_ok Try.func99 (by kernel_rfl) (fun _ => rfl) (lst3_of linkR20Right)

noncomputable def cxR19Of : Ctx := ⟨lookT tiTab, kk, gR20Right, gv, frs, lookN ftyOf, 16, [], [], lookL [], lookF fkTab, lookM mtTab, lookL [(3, [0, 1, 2, 3, 4, 5, 6, 7, 8, 9, 10])], lookH [], lookH [], lookH []⟩
noncomputable def dR19Of (p : MV) : Option MV :=
 gL p fun p1 =>
 lenN p1 fun len =>
 ifB (decide ((len : Int) = 0)) (
 some (.tup [.i .i64 (-1), .s ([] : List UInt8), .b false])) (
 idx p1 0 fun y =>
 gA y fun cs =>
 gC cs fun m msA =>
 gI .i64 m fun By =>
 gC msA fun m1 msA1 =>
 gI .i64 m1 fun View =>
 gC msA1 fun m2 msA2 =>
 gS m2 fun Value =>
 gN msA2 <|
 idx p1 0 fun y1 =>
 gA y1 fun cs1 =>
 gC cs1 fun m3 msA3 =>
 gI .i64 m3 fun By1 =>
 gC msA3 fun m4 msA4 =>
 gI .i64 m4 fun View1 =>
 gC msA4 fun m5 msA5 =>
 gS m5 fun Value1 =>
 gN msA5 <|
 some (.tup [.i .i64 View, .s Value1, .b true]))
theorem linkR19Of (p : MV) : bodyK cxR19Of [] none Try.f98 [p] = dR19Of p := by kernel_rfl
noncomputable def gR19Of : Nat → List MV → Option MV := addG 98 (lst1 dR19Of) gR20Right
theorem soundR19Of : SoundG Try.prog cx gR19Of :=
  soundR20Right.fn (c' := cxR19Of) (caps := []) ⟨rfl, rfl, rfl, rfl, rfl, rfl, rfl⟩ rfl tab_ok eq_ok fk_ok mt_ok mix_ok Try.func98 (by kernel_rfl) (fun _ => rfl) (lst1_of linkR19Of)

noncomputable def cxR07Vouch : Ctx := ⟨lookT tiTab, kk, gR19Of, gv, frs, lookN ftyOf, 9, [], [], lookL [], lookF fkTab, lookM mtTab, lookL [], lookH [], lookH [], lookH []⟩
noncomputable def dR07Vouch (sA : MV) : Option MV :=
 gA sA fun cs =>
 gC cs fun m msA =>
 gI .i64 m fun F =>
 gC msA fun m1 msA1 =>
 gI .i64 m1 fun T =>
 gN msA1 <|
 some (.i .i64 (IntKind.wrap .i64 ((IntKind.wrap .i64 (F + T)) + 1)))
theorem linkR07Vouch (sA : MV) : bodyK cxR07Vouch [] none Try.f123 [sA] = dR07Vouch sA := by kernel_rfl
noncomputable def gR07Vouch : Nat → List MV → Option MV := addG 123 (lst1 dR07Vouch) gR19Of
theorem soundR07Vouch : SoundG Try.prog cx gR07Vouch :=
  soundR19Of.fn (c' := cxR07Vouch) (caps := []) ⟨rfl, rfl, rfl, rfl, rfl, rfl, rfl⟩ rfl tab_ok eq_ok fk_ok mt_ok mix_ok Try.func123 (by kernel_rfl) (fun _ => rfl) (lst1_of linkR07Vouch)

noncomputable def cxR20Binds : Ctx := ⟨lookT tiTab, kk, gR07Vouch, gv, frs, lookN ftyOf, 108, [], [], lookL [], lookF fkTab, lookM mtTab, lookL [(15, [0, 1, 2, 3, 4, 5, 6, 7, 8, 9, 10, 11, 12, 13, 14, 15, 16, 17, 18, 19, 20, 21, 22, 23, 24, 25, 26, 27, 28, 29, 30, 31, 32, 33, 34, 35, 36, 37, 38, 39, 40, 41, 42])], lookH [(15, ⟨[1, 2, 6, 7, 12, 13, 14], [], [], [(0, [(93, .sc (.k .b))])], []⟩), (6, ⟨[1, 2, 6, 7, 8, 9, 10, 11], [], [], [(0, [(36, .sc (.k .b))])], []⟩)], lookH [(16, ⟨[1, 2, 6, 7, 12, 14], [], [], [(0, [(13, .sc (.k (.i .i64)))])], []⟩), (7, ⟨[1, 2, 8, 9, 10], [], [], [(0, [(6, .sc (.k (.i .i64))), (7, .sc (.k .s))])], []⟩)], lookH [(13, ⟨[1, 2, 6, 7, 12], [], [(13, .sc (.k (.i .i64))), (14, .sc (.k (.i .i64)))], [(6, [(13, .sc (.k (.i .i64)))])], []⟩), (9, ⟨[1, 2, 6, 7], [], [(12, .sc (.k (.i .i64)))], [(1, [(4, .sc (.k .s)), (5, .sc (.k .b))]), (4, [])], []⟩), (3, ⟨[1, 2], [], [(6, .sc (.k (.i .i64))), (7, .sc (.k .s)), (8, .sc (.k (.i .i64)))], [(2, [(6, .sc (.k (.i .i64))), (7, .sc (.k .s))])], []⟩)]⟩
noncomputable def dR20Binds (a a1 : MV) : Option MV :=
 gA a fun cs =>
 gC cs fun m msA =>
 gI .i64 m fun F =>
 gC msA fun m1 msA1 =>
 gI .i64 m1 fun T =>
 gN msA1 <|
 gL a1 fun a1N1 =>
 bd (Loop (fun msA2 =>
 gC msA2 fun m2 msA3 =>
 gI .i64 m2 fun x =>
 gC msA3 fun m3 msA4 =>
 gS m3 fun x1 =>
 gC msA4 fun m4 msA5 =>
 gI .i64 m4 fun x2 =>
 gN msA5 <|
 lenN a1N1 fun len =>
 ifB (decide (x2 < (len : Int))) (
 idx a1N1 x2 fun y =>
 gA y fun cs1 =>
 gC cs1 fun m5 msA6 =>
 gI .i64 m5 fun By =>
 gC msA6 fun m6 msA7 =>
 gI .i64 m6 fun For =>
 gC msA7 fun m7 msA8 =>
 gB m7 fun Has =>
 gC msA8 fun m8 msA9 =>
 gI .i64 m8 fun View =>
 gC msA9 fun m9 msA10 =>
 gS m9 fun Value =>
 gC msA10 fun m10 msA11 =>
 gL m10 fun Proof =>
 gN msA11 <|
 bd (dR19Of (.list Proof)) fun rA =>
 gT rA fun vs =>
 gC vs fun m11 msA12 =>
 gI .i64 m11 fun x3 =>
 gC msA12 fun m12 msA13 =>
 gS m12 fun x4 =>
 gC msA13 fun m13 msA14 =>
 gB m13 fun x5 =>
 gN msA14 <|
 bd (
 ifB x5 (
 some [.b (decide (x < x3))]) (
 some [.b false])) fun vs1 =>
 gC vs1 fun m14 msA15 =>
 gB m14 fun x6 =>
 gN msA15 <|
 bd (
 ifB x6 (
 some (0, [.i .i64 x3, .s x4])) (
 some (0, [.i .i64 x, .s x1]))) fun p1 =>
 chk (Nat.beq p1.1 0) <|
 gC p1.2 fun m15 msA16 =>
 gI .i64 m15 fun x7 =>
 gC msA16 fun m16 msA17 =>
 gS m16 fun x8 =>
 gN msA17 <|
 some (.inl [.i .i64 x7, .s x8, .i .i64 (IntKind.wrap .i64 (x2 + 1))])) (
 some (.inr (2, [.i .i64 x, .s x1])))) [.i .i64 (-1), .s ([] : List UInt8), .i .i64 0]) fun p =>
 chk (Nat.beq p.1 2) <|
 gC p.2 fun m17 msA18 =>
 gI .i64 m17 fun x9 =>
 gC msA18 fun m18 msA19 =>
 gS m18 fun x10 =>
 gN msA19 <|
 bd (Loop (fun msA20 =>
 gC msA20 fun m19 msA21 =>
 gI .i64 m19 fun x11 =>
 gN msA21 <|
 lenN a1N1 fun len1 =>
 ifB (decide (x11 < (len1 : Int))) (
 bd (Loop (fun msA22 =>
 gC msA22 fun m20 msA23 =>
 gI .i64 m20 fun x12 =>
 gC msA23 fun m21 msA24 =>
 gI .i64 m21 fun x13 =>
 gN msA24 <|
 lenN a1N1 fun len2 =>
 ifB (decide (x13 < (len2 : Int))) (
 bd (
 idx a1N1 x13 fun y1 =>
 gA y1 fun cs2 =>
 gC cs2 fun m22 msA25 =>
 gI .i64 m22 fun By1 =>
 gC msA25 fun m23 msA26 =>
 gI .i64 m23 fun For1 =>
 gC msA26 fun m24 msA27 =>
 gB m24 fun Has1 =>
 gC msA27 fun m25 msA28 =>
 gI .i64 m25 fun View1 =>
 gC msA28 fun m26 msA29 =>
 gS m26 fun Value1 =>
 gC msA29 fun m27 msA30 =>
 gL m27 fun Proof1 =>
 gN msA30 <|
 ifB Has1 (
 idx a1N1 x13 fun y2 =>
 gA y2 fun cs3 =>
 gC cs3 fun m28 msA31 =>
 gI .i64 m28 fun By2 =>
 gC msA31 fun m29 msA32 =>
 gI .i64 m29 fun For2 =>
 gC msA32 fun m30 msA33 =>
 gB m30 fun Has2 =>
 gC msA33 fun m31 msA34 =>
 gI .i64 m31 fun View2 =>
 gC msA34 fun m32 msA35 =>
 gS m32 fun Value2 =>
 gC msA35 fun m33 msA36 =>
 gL m33 fun Proof2 =>
 gN msA36 <|
 ifB (decide (x9 < View2)) (
 idx a1N1 x11 fun y3 =>
 gA y3 fun cs4 =>
 gC cs4 fun m34 msA37 =>
 gI .i64 m34 fun By3 =>
 gC msA37 fun m35 msA38 =>
 gI .i64 m35 fun For3 =>
 gC msA38 fun m36 msA39 =>
 gB m36 fun Has3 =>
 gC msA39 fun m37 msA40 =>
 gI .i64 m37 fun View3 =>
 gC msA40 fun m38 msA41 =>
 gS m38 fun Value3 =>
 gC msA41 fun m39 msA42 =>
 gL m39 fun Proof3 =>
 gN msA42 <|
 ifB Has3 (
 idx a1N1 x11 fun y4 =>
 gA y4 fun cs5 =>
 gC cs5 fun m40 msA43 =>
 gI .i64 m40 fun By4 =>
 gC msA43 fun m41 msA44 =>
 gI .i64 m41 fun For4 =>
 gC msA44 fun m42 msA45 =>
 gB m42 fun Has4 =>
 gC msA45 fun m43 msA46 =>
 gI .i64 m43 fun View4 =>
 gC msA46 fun m44 msA47 =>
 gS m44 fun Value4 =>
 gC msA47 fun m45 msA48 =>
 gL m45 fun Proof4 =>
 gN msA48 <|
 ifB (decide (x9 < View4)) (
 idx a1N1 x13 fun y5 =>
 gA y5 fun cs6 =>
 gC cs6 fun m46 msA49 =>
 gI .i64 m46 fun By5 =>
 gC msA49 fun m47 msA50 =>
 gI .i64 m47 fun For5 =>
 gC msA50 fun m48 msA51 =>
 gB m48 fun Has5 =>
 gC msA51 fun m49 msA52 =>
 gI .i64 m49 fun View5 =>
 gC msA52 fun m50 msA53 =>
 gS m50 fun Value5 =>
 gC msA53 fun m51 msA54 =>
 gL m51 fun Proof5 =>
 gN msA54 <|
 idx a1N1 x11 fun y6 =>
 gA y6 fun cs7 =>
 gC cs7 fun m52 msA55 =>
 gI .i64 m52 fun By6 =>
 gC msA55 fun m53 msA56 =>
 gI .i64 m53 fun For6 =>
 gC msA56 fun m54 msA57 =>
 gB m54 fun Has6 =>
 gC msA57 fun m55 msA58 =>
 gI .i64 m55 fun View6 =>
 gC msA58 fun m56 msA59 =>
 gS m56 fun Value6 =>
 gC msA59 fun m57 msA60 =>
 gL m57 fun Proof6 =>
 gN msA60 <|
 some [.b (decide (Value5 = Value6))]) (
 some [.b false])) (
 some [.b false])) (
 some [.b false])) (
 some [.b false])) fun vs2 =>
 gC vs2 fun m58 msA61 =>
 gB m58 fun x14 =>
 gN msA61 <|
 bd (
 ifB x14 (
 some (0, [.i .i64 (IntKind.wrap .i64 (x12 + 1))])) (
 some (0, [.i .i64 x12]))) fun p4 =>
 chk (Nat.beq p4.1 0) <|
 gC p4.2 fun m59 msA62 =>
 gI .i64 m59 fun x15 =>
 gN msA62 <|
 some (.inl [.i .i64 x15, .i .i64 (IntKind.wrap .i64 (x13 + 1))])) (
 some (.inr (6, [.i .i64 x12])))) [.i .i64 0, .i .i64 0]) fun p3 =>
 chk (Nat.beq p3.1 6) <|
 gC p3.2 fun m60 msA63 =>
 gI .i64 m60 fun x16 =>
 gN msA63 <|
 bd (dR07Vouch (.agg [.i .i64 F, .i .i64 T])) fun rA1 =>
 gI .i64 rA1 fun x17 =>
 ifB (decide (x17 ≤ x16)) (
 idx a1N1 x11 fun y7 =>
 gA y7 fun cs8 =>
 gC cs8 fun m61 msA64 =>
 gI .i64 m61 fun By7 =>
 gC msA64 fun m62 msA65 =>
 gI .i64 m62 fun For7 =>
 gC msA65 fun m63 msA66 =>
 gB m63 fun Has7 =>
 gC msA66 fun m64 msA67 =>
 gI .i64 m64 fun View7 =>
 gC msA67 fun m65 msA68 =>
 gS m65 fun Value7 =>
 gC msA68 fun m66 msA69 =>
 gL m66 fun Proof7 =>
 gN msA69 <|
 some (.inr (1, [.s Value7, .b true]))) (
 some (.inl [.i .i64 (IntKind.wrap .i64 (x11 + 1))]))) (
 some (.inr (4, [])))) [.i .i64 0]) fun p2 =>
 ifB (Nat.beq p2.1 4) (
 gN p2.2 <|
 some (.tup [.s x10, .b (decide ((0 : Int) ≤ x9))])) (
 chk (Nat.beq p2.1 1) <|
 gC p2.2 fun m67 msA70 =>
 gS m67 fun x18 =>
 gC msA70 fun m68 msA71 =>
 gB m68 fun x19 =>
 gN msA71 <|
 some (.tup [.s x18, .b x19]))
theorem linkR20Binds (a a1 : MV) : bodyK cxR20Binds [] none Try.f100 [a, a1] = dR20Binds a a1 := by kernel_rfl
noncomputable def gR20Binds : Nat → List MV → Option MV := addG 100 (lst2 dR20Binds) gR07Vouch
theorem soundR20Binds : SoundG Try.prog cx gR20Binds :=
  soundR07Vouch.fn (c' := cxR20Binds) (caps := []) ⟨rfl, rfl, rfl, rfl, rfl, rfl, rfl⟩ rfl tab_ok eq_ok fk_ok mt_ok mix_ok Try.func100 (by kernel_rfl) (fun _ => rfl) (lst2_of linkR20Binds)

noncomputable def cxR20Vouches : Ctx := ⟨lookT tiTab, kk, gR20Binds, gv, frs, lookN ftyOf, 29, [], [], lookL [], lookF fkTab, lookM mtTab, lookL [], lookH [(4, ⟨[3, 9, 10], [], [], [(0, [(8, .sc (.k .b))])], []⟩)], lookH [], lookH []⟩
noncomputable def dR20Vouches (sA view lA value : MV) : Option MV :=
 gA sA fun cs =>
 gC cs fun m msA =>
 gI .i64 m fun F =>
 gC msA fun m1 msA1 =>
 gI .i64 m1 fun T =>
 gN msA1 <|
 gI .i64 view fun view1 =>
 gL lA fun lA1 =>
 gS value fun value1 =>
 bd (dR20Right (.agg [.i .i64 F, .i .i64 T]) (.i .i64 view1) (.list lA1)) fun rA =>
 gB rA fun x =>
 ifB (!x) (
 some (.b false)) (
 bd (dR20Binds (.agg [.i .i64 F, .i .i64 T]) (.list lA1)) fun rA1 =>
 gT rA1 fun vs =>
 gC vs fun m2 msA2 =>
 gS m2 fun x1 =>
 gC msA2 fun m3 msA3 =>
 gB m3 fun x2 =>
 gN msA3 <|
 bd (
 ifB (!x2) (
 some [.b true]) (
 some [.b (decide (x1 = value1))])) fun vs1 =>
 gC vs1 fun m4 msA4 =>
 gB m4 fun x3 =>
 gN msA4 <|
 some (.b x3))
theorem linkR20Vouches (sA view lA value : MV) : bodyK cxR20Vouches [] none Try.f59 [sA, view, lA, value] = dR20Vouches sA view lA value := by kernel_rfl
noncomputable def gR20Vouches : Nat → List MV → Option MV := addG 59 (lst4 dR20Vouches) gR20Binds
theorem soundR20Vouches : SoundG Try.prog cx gR20Vouches :=
  soundR20Binds.fn (c' := cxR20Vouches) (caps := []) ⟨rfl, rfl, rfl, rfl, rfl, rfl, rfl⟩ rfl tab_ok eq_ok fk_ok mt_ok mix_ok Try.func59 (by kernel_rfl) (fun _ => rfl) (lst4_of linkR20Vouches)

noncomputable def cxR21Propose : Ctx := ⟨lookT tiTab, kk, gR20Vouches, gv, frs, lookN ftyOf, 64, [], [60], lookL [(7, [4])], lookF fkTab, lookM mtTab, lookL [(7, [0, 1, 2, 3, 4, 5, 6, 7, 8])], lookH [(2, ⟨[1, 2, 3, 4, 8, 9, 11], [], [], [(0, [(50, .sc (.k .b))])], []⟩), (1, ⟨[1, 2, 3, 4, 8, 9], [], [], [(0, [(11, .sc (.k .b))])], []⟩)], lookH [], lookH []⟩
noncomputable def dR21Propose (a view value cert : MV) : Option MV :=
 gA a fun cs =>
 gC cs fun m msA =>
 gI .i64 m fun SF =>
 gC msA fun m1 msA1 =>
 gI .i64 m1 fun ST =>
 gC msA1 fun m2 msA2 =>
 gI .i64 m2 fun Me =>
 gC msA2 fun m3 msA3 =>
 gI .i64 m3 fun View =>
 gC msA3 fun m4 msA4 =>
 gB m4 fun Has =>
 gC msA4 fun m5 msA5 =>
 gI .i64 m5 fun At =>
 gC msA5 fun m6 msA6 =>
 gS m6 fun Value =>
 gC msA6 fun m7 msA7 =>
 gL m7 fun Proof =>
 gC msA7 fun m8 msA8 =>
 gL m8 fun VotesL =>
 gN msA8 <|
 gI .i64 view fun view1 =>
 gS value fun value1 =>
 gL cert fun cert1 =>
 bd (
 ifB (decide (view1 = 0)) (
 lenN cert1 fun len =>
 some [.b (decide ((len : Int) = 0))]) (
 some [.b false])) fun vs =>
 gC vs fun m9 msA9 =>
 gB m9 fun free =>
 gN msA9 <|
 bd (
 ifB (!decide (view1 = View)) (
 some [.b true]) (
 ifB Has (
 ifB (decide (At = view1)) (
 some [.b true]) (
 ifB (decide ((6000 : Int) < (value1.length : Int))) (
 some [.b true]) (
 ifB (!free) (
 bd (dR20Vouches (.agg [.i .i64 SF, .i .i64 ST]) (.i .i64 view1) (.list cert1) (.s value1)) fun rA =>
 gB rA fun x =>
 some [.b (!x)]) (
 some [.b false])))) (
 ifB (decide ((6000 : Int) < (value1.length : Int))) (
 some [.b true]) (
 ifB (!free) (
 bd (dR20Vouches (.agg [.i .i64 SF, .i .i64 ST]) (.i .i64 view1) (.list cert1) (.s value1)) fun rA1 =>
 gB rA1 fun x1 =>
 some [.b (!x1)]) (
 some [.b false]))))) fun vs1 =>
 gC vs1 fun m10 msA10 =>
 gB m10 fun x2 =>
 gN msA10 <|
 ifB x2 (
 some (.tup [.agg [.i .i64 SF, .i .i64 ST, .i .i64 Me, .i .i64 View, .b Has, .i .i64 At, .s Value, .list Proof, .list VotesL], .agg [.i .i64 0, .i .i64 0, .s ([] : List UInt8)], .b false])) (
 some (.tup [.agg [.i .i64 SF, .i .i64 ST, .i .i64 Me, .i .i64 View, .b true, .i .i64 view1, .s value1, .list Proof, .list VotesL], .agg [.i .i64 Me, .i .i64 view1, .s value1], .b true]))
theorem linkR21Propose (a view value cert : MV) : bodyK cxR21Propose [] none Try.f55 [a, view, value, cert] = dR21Propose a view value cert := by kernel_rfl
noncomputable def gR21Propose : Nat → List MV → Option MV := addG 55 (lst4 dR21Propose) gR20Vouches
theorem soundR21Propose : SoundG Try.prog cx gR21Propose :=
  soundR20Vouches.fn (c' := cxR21Propose) (caps := []) ⟨rfl, rfl, rfl, rfl, rfl, rfl, rfl⟩ rfl tab_ok eq_ok fk_ok mt_ok mix_ok Try.func55 (by kernel_rfl) (fun _ => rfl) (lst4_of linkR21Propose)

noncomputable def cxCmpIsNaNInt : Ctx := ⟨lookT tiTab, kk, gR21Propose, gv, frs, lookN ftyOf, 6, [], [], lookL [], lookF fkTab, lookM mtTab, lookL [], lookH [], lookH [], lookH []⟩
noncomputable def dCmpIsNaNInt (x : MV) : Option MV :=
 gI .i64 x fun x1 =>
 some (.b (!decide (x1 = x1)))
theorem linkCmpIsNaNInt (x : MV) : bodyK cxCmpIsNaNInt [] none Try.f133 [x] = dCmpIsNaNInt x := by kernel_rfl
noncomputable def gCmpIsNaNInt : Nat → List MV → Option MV := addG 133 (lst1 dCmpIsNaNInt) gR21Propose
theorem soundCmpIsNaNInt : SoundG Try.prog cx gCmpIsNaNInt :=
  soundR21Propose.fn (c' := cxCmpIsNaNInt) (caps := []) ⟨rfl, rfl, rfl, rfl, rfl, rfl, rfl⟩ rfl tab_ok eq_ok fk_ok mt_ok mix_ok Try.func133 (by kernel_rfl) (fun _ => rfl) (lst1_of linkCmpIsNaNInt)

noncomputable def cxCmpCompareInt : Ctx := ⟨lookT tiTab, kk, gCmpIsNaNInt, gv, frs, lookN ftyOf, 20, [], [], lookL [], lookF fkTab, lookM mtTab, lookL [], lookH [], lookH [], lookH []⟩
noncomputable def dCmpCompareInt (x y : MV) : Option MV :=
 gI .i64 x fun x1 =>
 gI .i64 y fun y1 =>
 bd (dCmpIsNaNInt (.i .i64 x1)) fun rA =>
 gB rA fun x2 =>
 bd (dCmpIsNaNInt (.i .i64 y1)) fun rA1 =>
 gB rA1 fun x3 =>
 ifB x2 (
 ifB x3 (
 some (.i .i64 0)) (
 some (.i .i64 (-1)))) (
 ifB x3 (
 some (.i .i64 1)) (
 ifB (decide (x1 < y1)) (
 some (.i .i64 (-1))) (
 ifB (decide (y1 < x1)) (
 some (.i .i64 1)) (
 some (.i .i64 0)))))
theorem linkCmpCompareInt (x y : MV) : bodyK cxCmpCompareInt [] none Try.f116 [x, y] = dCmpCompareInt x y := by kernel_rfl
noncomputable def gCmpCompareInt : Nat → List MV → Option MV := addG 116 (lst2 dCmpCompareInt) gCmpIsNaNInt
theorem soundCmpCompareInt : SoundG Try.prog cx gCmpCompareInt :=
  soundCmpIsNaNInt.fn (c' := cxCmpCompareInt) (caps := []) ⟨rfl, rfl, rfl, rfl, rfl, rfl, rfl⟩ rfl tab_ok eq_ok fk_ok mt_ok mix_ok Try.func116 (by kernel_rfl) (fun _ => rfl) (lst2_of linkCmpCompareInt)

noncomputable def cxTallyAddF1 : Ctx := ⟨lookT tiTab, kk, gCmpCompareInt, gv, frs, lookN ftyOf, 9, [], [], lookL [], lookF fkTab, lookM mtTab, lookL [], lookH [], lookH [], lookH []⟩
noncomputable def dTallyAddF1 (x byA : MV) : Option MV :=
 gA x fun cs =>
 gC cs fun m msA =>
 gI .i64 m fun By =>
 gC msA fun m1 msA1 =>
 gI .i64 m1 fun View =>
 gC msA1 fun m2 msA2 =>
 gS m2 fun Value =>
 gN msA2 <|
 gI .i64 byA fun byA1 =>
 bd (dCmpCompareInt (.i .i64 By) (.i .i64 byA1)) fun rA =>
 gI .i64 rA fun x1 =>
 some (.i .i64 x1)
theorem linkTallyAddF1 (x byA : MV) : bodyK cxTallyAddF1 [] none Try.f115 [x, byA] = dTallyAddF1 x byA := by kernel_rfl
noncomputable def gTallyAddF1 : Nat → List MV → Option MV := addG 115 (lst2 dTallyAddF1) gCmpCompareInt
theorem soundTallyAddF1 : SoundG Try.prog cx gTallyAddF1 :=
  soundCmpCompareInt.fn (c' := cxTallyAddF1) (caps := []) ⟨rfl, rfl, rfl, rfl, rfl, rfl, rfl⟩ rfl tab_ok eq_ok fk_ok mt_ok mix_ok Try.func115 (by kernel_rfl) (fun _ => rfl) (lst2_of linkTallyAddF1)
noncomputable def preSlicesBinarySearchFuncApiAcceptInt : Nat → List MV → Option MV := gTallyAddF1
theorem atSlicesBinarySearchFuncApiAcceptIntTallyAddF1 (x0 x1 : MV) : preSlicesBinarySearchFuncApiAcceptInt 115 [x0, x1] = dTallyAddF1 x0 x1 := by kernel_rfl

noncomputable def cxSlicesBinarySearchFuncApiAcceptInt : Ctx := ⟨lookT tiTab, kk, gTallyAddF1, gv, frs, lookN ftyOf, 49, [], [], lookL [], lookF fkTab, lookM mtTab, lookL [], lookH [(8, ⟨[0, 1, 2, 8, 9], [], [], [(0, [(6, .sc (.k (.i .i64))), (7, .sc (.k .b))])], []⟩)], lookH [(6, ⟨[0, 1, 2, 8, 11], [], [], [(0, [(9, .sc (.k (.i .i64))), (10, .sc (.k (.i .i64)))])], []⟩)], lookH [(3, ⟨[0, 1, 2, 8], [], [(9, .sc (.k (.i .i64))), (10, .sc (.k (.i .i64)))], [(2, [(9, .sc (.k (.i .i64)))])], []⟩)]⟩
noncomputable def dSlicesBinarySearchFuncApiAcceptInt (x target cmp : MV) : Option MV :=
 gL x fun x1 =>
 gI .i64 target fun target1 =>
 gR cmp fun cmp1 =>
 lenN x1 fun len =>
 bd (Loop (fun msA =>
 gC msA fun m msA1 =>
 gI .i64 m fun i =>
 gC msA1 fun m1 msA2 =>
 gI .i64 m1 fun j =>
 gN msA2 <|
 ifB (decide (i < j)) (
 chk (decide ((0 : Int) ≤ 1)) <|
 idx x1 (IntKind.wrap .i64 (Int.fdiv (IntKind.wrap .u64 (IntKind.wrap .i64 (i + j))) (2 ^ min (Int.toNat 1) (IntKind.bits .u64)))) fun y =>
 gA y fun cs =>
 gC cs fun m2 msA3 =>
 gI .i64 m2 fun By =>
 gC msA3 fun m3 msA4 =>
 gI .i64 m3 fun View =>
 gC msA4 fun m4 msA5 =>
 gS m4 fun Value =>
 gN msA5 <|
 gFn cmp1 fun fn cap =>
 chk (!gv fn) <|
 bd (preSlicesBinarySearchFuncApiAcceptInt fn ([.agg [.i .i64 By, .i .i64 View, .s Value], .i .i64 target1] ++ cap)) fun rA =>
 gI .i64 rA fun x2 =>
 bd (
 ifB (decide (x2 < 0)) (
 some (0, [.i .i64 (IntKind.wrap .i64 ((IntKind.wrap .i64 (Int.fdiv (IntKind.wrap .u64 (IntKind.wrap .i64 (i + j))) (2 ^ min (Int.toNat 1) (IntKind.bits .u64)))) + 1)), .i .i64 j])) (
 some (0, [.i .i64 i, .i .i64 (IntKind.wrap .i64 (Int.fdiv (IntKind.wrap .u64 (IntKind.wrap .i64 (i + j))) (2 ^ min (Int.toNat 1) (IntKind.bits .u64))))]))) fun p1 =>
 chk (Nat.beq p1.1 0) <|
 gC p1.2 fun m5 msA6 =>
 gI .i64 m5 fun i1 =>
 gC msA6 fun m6 msA7 =>
 gI .i64 m6 fun j1 =>
 gN msA7 <|
 some (.inl [.i .i64 i1, .i .i64 j1])) (
 some (.inr (2, [.i .i64 i])))) [.i .i64 0, .i .i64 (len : Int)]) fun p =>
 chk (Nat.beq p.1 2) <|
 gC p.2 fun m7 msA8 =>
 gI .i64 m7 fun i2 =>
 gN msA8 <|
 bd (
 ifB (decide (i2 < (len : Int))) (
 idx x1 i2 fun y1 =>
 gA y1 fun cs1 =>
 gC cs1 fun m8 msA9 =>
 gI .i64 m8 fun By1 =>
 gC msA9 fun m9 msA10 =>
 gI .i64 m9 fun View1 =>
 gC msA10 fun m10 msA11 =>
 gS m10 fun Value1 =>
 gN msA11 <|
 gFn cmp1 fun fn1 cap1 =>
 chk (!gv fn1) <|
 bd (preSlicesBinarySearchFuncApiAcceptInt fn1 ([.agg [.i .i64 By1, .i .i64 View1, .s Value1], .i .i64 target1] ++ cap1)) fun rA1 =>
 gI .i64 rA1 fun x3 =>
 some [.i .i64 i2, .b (decide (x3 = 0))]) (
 some [.i .i64 i2, .b false])) fun vs =>
 gC vs fun m11 msA12 =>
 gI .i64 m11 fun x4 =>
 gC msA12 fun m12 msA13 =>
 gB m12 fun x5 =>
 gN msA13 <|
 some (.tup [.i .i64 x4, .b x5])
theorem linkSlicesBinarySearchFuncApiAcceptInt (x target cmp : MV) : bodyK cxSlicesBinarySearchFuncApiAcceptInt [] none Try.f114 [x, target, cmp] = dSlicesBinarySearchFuncApiAcceptInt x target cmp := by kernel_rfl
noncomputable def gSlicesBinarySearchFuncApiAcceptInt : Nat → List MV → Option MV := addG 114 (lst3 dSlicesBinarySearchFuncApiAcceptInt) gTallyAddF1
theorem soundSlicesBinarySearchFuncApiAcceptInt : SoundG Try.prog cx gSlicesBinarySearchFuncApiAcceptInt :=
  soundTallyAddF1.fn (c' := cxSlicesBinarySearchFuncApiAcceptInt) (caps := []) ⟨rfl, rfl, rfl, rfl, rfl, rfl, rfl⟩ rfl tab_ok eq_ok fk_ok mt_ok mix_ok Try.func114 (by kernel_rfl) (fun _ => rfl) (lst3_of linkSlicesBinarySearchFuncApiAcceptInt)

noncomputable def cxTallyAdd : Ctx := ⟨lookT tiTab, kk, gSlicesBinarySearchFuncApiAcceptInt, gv, frs, lookN ftyOf, 49, [], [], lookL [], lookF fkTab, lookM mtTab, lookL [(4, [0, 1, 2, 3, 4, 5, 6, 7, 8, 9, 10, 11])], lookH [(4, ⟨[2, 3, 4, 6, 7], [], [], [(0, [(32, .sc (.k .b))])], [45, 46]⟩)], lookH [(8, ⟨[3, 4, 6], [], [], [(0, [(8, .sc (.own 36 72 false))])], [45, 46]⟩)], lookH []⟩
noncomputable def dTallyAdd (t a : MV) : Option MV :=
 gA t fun cs =>
 gC cs fun m msA =>
 gL m fun L =>
 gN msA <|
 gA a fun cs1 =>
 gC cs1 fun m1 msA1 =>
 gI .i64 m1 fun By =>
 gC msA1 fun m2 msA2 =>
 gI .i64 m2 fun View =>
 gC msA2 fun m3 msA3 =>
 gS m3 fun Value =>
 gN msA3 <|
 bd (dTallyMay (.agg [.i .i64 By, .i .i64 View, .s Value])) fun rA =>
 gB rA fun x =>
 ifB (!x) (
 some (.tup [.agg [.list L], .b false])) (
 bd (dSlicesBinarySearchFuncApiAcceptInt (.list L) (.i .i64 By) (.func 115 [])) fun rA1 =>
 gT rA1 fun vs =>
 gC vs fun m4 msA4 =>
 gI .i64 m4 fun x1 =>
 gC msA4 fun m5 msA5 =>
 gB m5 fun x2 =>
 gN msA5 <|
 bd (
 ifB x2 (
 idx L x1 fun y =>
 gA y fun cs2 =>
 gC cs2 fun m6 msA6 =>
 gI .i64 m6 fun By1 =>
 gC msA6 fun m7 msA7 =>
 gI .i64 m7 fun View1 =>
 gC msA7 fun m8 msA8 =>
 gS m8 fun Value1 =>
 gN msA8 <|
 some [.b (decide (View ≤ View1))]) (
 some [.b false])) fun vs1 =>
 gC vs1 fun m9 msA9 =>
 gB m9 fun x3 =>
 gN msA9 <|
 ifB x3 (
 some (.tup [.agg [.list L], .b false])) (
 bd (cloneF 3 32 [.list L]) fun rA2 =>
 gF rA2 fun xs =>
 bd (
 ifB x2 (
 idx xs x1 fun y1 =>
 gA y1 fun cs3 =>
 gC cs3 fun m10 msA10 =>
 gI .i64 m10 fun By2 =>
 gC msA10 fun m11 msA11 =>
 gI .i64 m11 fun View2 =>
 gC msA11 fun m12 msA12 =>
 gS m12 fun Value2 =>
 gN msA12 <|
 some (0, [.list (xs.set (Int.toNat x1) (.agg [.i .i64 By, .i .i64 View, .s Value]))])) (
 bd (insertF 32 [.fresh xs, .i .i64 x1, .fresh ([.agg [.i .i64 By, .i .i64 View, .s Value]] : List MV)]) fun rA3 =>
 gF rA3 fun xs1 =>
 some (0, [.list xs1]))) fun p =>
 chk (Nat.beq p.1 0) <|
 gC p.2 fun m13 msA13 =>
 gL m13 fun lA =>
 gN msA13 <|
 some (.tup [.agg [.list lA], .b true])))
theorem linkTallyAdd (t a : MV) : bodyK cxTallyAdd [] none Try.f94 [t, a] = dTallyAdd t a := by kernel_rfl
noncomputable def gTallyAdd : Nat → List MV → Option MV := addG 94 (lst2 dTallyAdd) gSlicesBinarySearchFuncApiAcceptInt
theorem soundTallyAdd : SoundG Try.prog cx gTallyAdd :=
  soundSlicesBinarySearchFuncApiAcceptInt.fn (c' := cxTallyAdd) (caps := []) ⟨rfl, rfl, rfl, rfl, rfl, rfl, rfl⟩ rfl tab_ok eq_ok fk_ok mt_ok mix_ok Try.func94 (by kernel_rfl) (fun _ => rfl) (lst2_of linkTallyAdd)

noncomputable def cxTallyBest : Ctx := ⟨lookT tiTab, kk, gTallyAdd, gv, frs, lookN ftyOf, 71, [], [], lookL [], lookF fkTab, lookM mtTab, lookL [(5, [0, 1, 2, 3, 4, 5, 6, 7, 8, 9, 10]), (17, [0, 1, 2, 3, 4, 5, 6])], lookH [(12, ⟨[1, 7, 10, 11, 14, 36, 37, 38], [], [], [(0, [(62, .sc (.k .b))])], []⟩)], lookH [(13, ⟨[1, 7, 14, 36, 37, 38], [], [], [(0, [(10, .box [.k (.i .i64), .k .s]), (11, .sc (.k .b))])], []⟩)], lookH [(9, ⟨[1, 7, 36, 37], [], [(10, .box [.k (.i .i64), .k .s]), (11, .sc (.k .b)), (38, .sc (.k (.i .i64)))], [(4, [(10, .box [.k (.i .i64), .k .s]), (11, .sc (.k .b))])], []⟩), (3, ⟨[1, 2, 17, 18], [], [(7, .mp ⟨true, [.i .i64, .s], false⟩), (19, .sc (.k (.i .i64)))], [(2, [(7, .mp ⟨true, [.i .i64, .s], false⟩)])], []⟩)]⟩
noncomputable def dTallyBest (a a1 : MV) : Option MV :=
 gA a fun cs =>
 gC cs fun m msA =>
 gL m fun L =>
 gN msA <|
 gI .i64 a1 fun a1N1 =>
 lenN L fun len =>
 bd (Loop (fun msA1 =>
 gC msA1 fun m1 msA2 =>
 gL m1 fun es =>
 gC msA2 fun m2 msA3 =>
 gI .i64 m2 fun x =>
 gN msA3 <|
 ifB (decide (x < (len : Int))) (
 idx L x fun y =>
 gA y fun cs1 =>
 gC cs1 fun m3 msA4 =>
 gI .i64 m3 fun By =>
 gC msA4 fun m4 msA5 =>
 gI .i64 m4 fun View =>
 gC msA5 fun m5 msA6 =>
 gS m5 fun Value =>
 gN msA6 <|
 chk (decide ((0 : Int) ≤ (midx es ([.i .i64 View, .s Value] : List MV) : Int) ∧ Int.toNat (midx es ([.i .i64 View, .s Value] : List MV) : Int) < (ment es ([.i .i64 View, .s Value] : List MV) (.i .i64 0)).length)) <|
 some (.inl [.list (mset (ment es ([.i .i64 View, .s Value] : List MV) (.i .i64 0)) (Int.toNat (midx es ([.i .i64 View, .s Value] : List MV) : Int)) (.i .i64 (IntKind.wrap .i64 ((mgetI es ([.i .i64 View, .s Value] : List MV)) + 1)))), .i .i64 (IntKind.wrap .i64 (x + 1))])) (
 some (.inr (2, [.list es])))) [.list ([] : List MV), .i .i64 0]) fun p =>
 chk (Nat.beq p.1 2) <|
 gC p.2 fun m6 msA7 =>
 gL m6 fun es1 =>
 gN msA7 <|
 lenN L fun len1 =>
 bd (Loop (fun msA8 =>
 gC msA8 fun m7 msA9 =>
 gI .i64 m7 fun x1 =>
 gC msA9 fun m8 msA10 =>
 gS m8 fun x2 =>
 gC msA10 fun m9 msA11 =>
 gB m9 fun x3 =>
 gC msA11 fun m10 msA12 =>
 gI .i64 m10 fun x4 =>
 gN msA12 <|
 ifB (decide (x4 < (len1 : Int))) (
 idx L x4 fun y1 =>
 gA y1 fun cs2 =>
 gC cs2 fun m11 msA13 =>
 gI .i64 m11 fun By1 =>
 gC msA13 fun m12 msA14 =>
 gI .i64 m12 fun View1 =>
 gC msA14 fun m13 msA15 =>
 gS m13 fun Value1 =>
 gN msA15 <|
 bd (
 ifB (decide ((1 : Int) ≤ a1N1)) (
 ifB (decide (a1N1 ≤ (mgetI es1 ([.i .i64 View1, .s Value1] : List MV)))) (
 some [.b (decide (x1 < View1))]) (
 some [.b false])) (
 some [.b false])) fun vs =>
 gC vs fun m14 msA16 =>
 gB m14 fun x5 =>
 gN msA16 <|
 bd (
 ifB x5 (
 some (0, [.i .i64 View1, .s Value1, .b true])) (
 some (0, [.i .i64 x1, .s x2, .b x3]))) fun p2 =>
 chk (Nat.beq p2.1 0) <|
 gC p2.2 fun m15 msA17 =>
 gI .i64 m15 fun x6 =>
 gC msA17 fun m16 msA18 =>
 gS m16 fun x7 =>
 gC msA18 fun m17 msA19 =>
 gB m17 fun x8 =>
 gN msA19 <|
 some (.inl [.i .i64 x6, .s x7, .b x8, .i .i64 (IntKind.wrap .i64 (x4 + 1))])) (
 some (.inr (4, [.i .i64 x1, .s x2, .b x3])))) [.i .i64 (-1), .s ([] : List UInt8), .b false, .i .i64 0]) fun p1 =>
 chk (Nat.beq p1.1 4) <|
 gC p1.2 fun m18 msA20 =>
 gI .i64 m18 fun x9 =>
 gC msA20 fun m19 msA21 =>
 gS m19 fun x10 =>
 gC msA21 fun m20 msA22 =>
 gB m20 fun x11 =>
 gN msA22 <|
 ifB (!x11) (
 some (.tup [.i .i64 0, .s ([] : List UInt8), .b false])) (
 some (.tup [.i .i64 x9, .s x10, .b true]))
theorem linkTallyBest (a a1 : MV) : bodyK cxTallyBest [] none Try.f108 [a, a1] = dTallyBest a a1 := by kernel_rfl
noncomputable def gTallyBest : Nat → List MV → Option MV := addG 108 (lst2 dTallyBest) gTallyAdd
theorem soundTallyBest : SoundG Try.prog cx gTallyBest :=
  soundTallyAdd.fn (c' := cxTallyBest) (caps := []) ⟨rfl, rfl, rfl, rfl, rfl, rfl, rfl⟩ rfl tab_ok eq_ok fk_ok mt_ok mix_ok Try.func108 (by kernel_rfl) (fun _ => rfl) (lst2_of linkTallyBest)

noncomputable def cxProofMake : Ctx := ⟨lookT tiTab, kk, gTallyBest, gv, frs, lookN ftyOf, 26, [], [], lookL [], lookF fkTab, lookM mtTab, lookL [(1, [0, 1, 2, 3, 4, 5, 6, 7, 8, 9, 10]), (4, [0, 1, 2, 4, 3, 5, 6, 7, 8])], lookH [], lookH [], lookH []⟩
noncomputable def dProofMake (sA t : MV) : Option MV :=
 gA sA fun cs =>
 gC cs fun m msA =>
 gI .i64 m fun F =>
 gC msA fun m1 msA1 =>
 gI .i64 m1 fun T =>
 gN msA1 <|
 gA t fun cs1 =>
 gC cs1 fun m2 msA2 =>
 gL m2 fun L =>
 gN msA2 <|
 bd (dSizeProof (.agg [.i .i64 F, .i .i64 T])) fun rA =>
 gI .i64 rA fun x =>
 bd (dTallyBest (.agg [.list L]) (.i .i64 x)) fun rA1 =>
 gT rA1 fun vs =>
 gC vs fun m3 msA3 =>
 gI .i64 m3 fun x1 =>
 gC msA3 fun m4 msA4 =>
 gS m4 fun x2 =>
 gC msA4 fun m5 msA5 =>
 gB m5 fun x3 =>
 gN msA5 <|
 ifB (!x3) (
 some (.tup [.list ([] : List MV), .b false])) (
 bd (dTallyVoters (.agg [.list L]) (.i .i64 x1) (.s x2)) fun rA2 =>
 gL rA2 fun x4 =>
 bd (dSizeProof (.agg [.i .i64 F, .i .i64 T])) fun rA3 =>
 gI .i64 rA3 fun x5 =>
 lenN x4 fun len =>
 chk (decide ((0 : Int) ≤ 0 ∧ (0 : Int) ≤ x5 ∧ x5 ≤ (len : Int))) <|
 some (.tup [.list (List.drop (Int.toNat 0) (List.take (Int.toNat x5) x4)), .b true]))
theorem linkProofMake (sA t : MV) : bodyK cxProofMake [] none Try.f95 [sA, t] = dProofMake sA t := by kernel_rfl
noncomputable def gProofMake : Nat → List MV → Option MV := addG 95 (lst2 dProofMake) gTallyBest
theorem soundProofMake : SoundG Try.prog cx gProofMake :=
  soundTallyBest.fn (c' := cxProofMake) (caps := []) ⟨rfl, rfl, rfl, rfl, rfl, rfl, rfl⟩ rfl tab_ok eq_ok fk_ok mt_ok mix_ok Try.func95 (by kernel_rfl) (fun _ => rfl) (lst2_of linkProofMake)

noncomputable def cxAcceptorHear : Ctx := ⟨lookT tiTab, kk, gProofMake, gv, frs, lookN ftyOf, 67, [], [], lookL [], lookF fkTab, lookM mtTab, lookL [(1, [0, 1, 2, 3, 4, 5, 6, 7, 8, 9, 10, 11, 12])], lookH [(6, ⟨[2, 3, 4, 7, 8, 9], [], [], [(0, [(61, .sc (.k .b))])], []⟩), (1, ⟨[2, 3, 4], [], [], [(0, [(24, .sc (.k .b))])], []⟩)], lookH [], lookH []⟩
noncomputable def dAcceptorHear (a a1 : MV) : Option MV :=
 gA a fun cs =>
 gC cs fun m msA =>
 gI .i64 m fun SF =>
 gC msA fun m1 msA1 =>
 gI .i64 m1 fun ST =>
 gC msA1 fun m2 msA2 =>
 gI .i64 m2 fun Me =>
 gC msA2 fun m3 msA3 =>
 gI .i64 m3 fun View =>
 gC msA3 fun m4 msA4 =>
 gB m4 fun Has =>
 gC msA4 fun m5 msA5 =>
 gI .i64 m5 fun At =>
 gC msA5 fun m6 msA6 =>
 gS m6 fun Value =>
 gC msA6 fun m7 msA7 =>
 gL m7 fun Proof =>
 gC msA7 fun m8 msA8 =>
 gL m8 fun VotesL =>
 gN msA8 <|
 gA a1 fun cs1 =>
 gC cs1 fun m9 msA9 =>
 gI .i64 m9 fun By =>
 gC msA9 fun m10 msA10 =>
 gI .i64 m10 fun View1 =>
 gC msA10 fun m11 msA11 =>
 gS m11 fun Value1 =>
 gN msA11 <|
 bd (
 bd (dSizeN (.agg [.i .i64 SF, .i .i64 ST])) fun rA =>
 gI .i64 rA fun x =>
 ifB (decide (x ≤ By)) (
 some [.b true]) (
 some [.b (!decide (View1 = View))])) fun vs =>
 gC vs fun m12 msA12 =>
 gB m12 fun x1 =>
 gN msA12 <|
 ifB x1 (
 some (.tup [.agg [.i .i64 SF, .i .i64 ST, .i .i64 Me, .i .i64 View, .b Has, .i .i64 At, .s Value, .list Proof, .list VotesL], .list ([] : List MV), .b false])) (
 bd (dTallyAdd (.agg [.list VotesL]) (.agg [.i .i64 By, .i .i64 View1, .s Value1])) fun rA1 =>
 gT rA1 fun vs1 =>
 gC vs1 fun m13 msA13 =>
 gA m13 fun cs2 =>
 gC cs2 fun m14 msA14 =>
 gL m14 fun L =>
 gN msA14 <|
 gC msA13 fun m15 msA15 =>
 gB m15 fun x2 =>
 gN msA15 <|
 bd (dProofMake (.agg [.i .i64 SF, .i .i64 ST]) (.agg [.list L])) fun rA2 =>
 gT rA2 fun vs2 =>
 gC vs2 fun m16 msA16 =>
 gL m16 fun x3 =>
 gC msA16 fun m17 msA17 =>
 gB m17 fun x4 =>
 gN msA17 <|
 bd (dProofOf (.list Proof)) fun rA3 =>
 gT rA3 fun vs3 =>
 gC vs3 fun m18 msA18 =>
 gI .i64 m18 fun x5 =>
 gC msA18 fun m19 msA19 =>
 gS m19 fun x6 =>
 gC msA19 fun m20 msA20 =>
 gB m20 fun x7 =>
 gN msA20 <|
 bd (
 bd (dTallyMay (.agg [.i .i64 By, .i .i64 View1, .s Value1])) fun rA4 =>
 gB rA4 fun x8 =>
 ifB (!x8) (
 some [.b true]) (
 ifB (!x4) (
 some [.b true]) (
 some [.b (decide (View ≤ x5))]))) fun vs4 =>
 gC vs4 fun m21 msA21 =>
 gB m21 fun x9 =>
 gN msA21 <|
 ifB x9 (
 some (.tup [.agg [.i .i64 SF, .i .i64 ST, .i .i64 Me, .i .i64 View, .b Has, .i .i64 At, .s Value, .list Proof, .list L], .list ([] : List MV), .b false])) (
 some (.tup [.agg [.i .i64 SF, .i .i64 ST, .i .i64 Me, .i .i64 View, .b Has, .i .i64 At, .s Value, .list x3, .list L], .list x3, .b true])))
theorem linkAcceptorHear (a a1 : MV) : bodyK cxAcceptorHear [] none Try.f56 [a, a1] = dAcceptorHear a a1 := by kernel_rfl
noncomputable def gAcceptorHear : Nat → List MV → Option MV := addG 56 (lst2 dAcceptorHear) gProofMake
theorem soundAcceptorHear : SoundG Try.prog cx gAcceptorHear :=
  soundProofMake.fn (c' := cxAcceptorHear) (caps := []) ⟨rfl, rfl, rfl, rfl, rfl, rfl, rfl⟩ rfl tab_ok eq_ok fk_ok mt_ok mix_ok Try.func56 (by kernel_rfl) (fun _ => rfl) (lst2_of linkAcceptorHear)

noncomputable def cxR18Add : Ctx := ⟨lookT tiTab, kk, gAcceptorHear, gv, frs, lookN ftyOf, 70, [51, 60, 66], [], lookL [], lookF fkTab, lookM mtTab, lookL [], lookH [(11, ⟨[2, 3, 4, 6, 7, 8, 9], [14], [], [(0, [(48, .sc (.k .b))])], [14, 51, 60, 66]⟩), (9, ⟨[2, 3, 4, 6, 7, 8, 9], [14], [], [(0, [(38, .sc (.k .b))])], [14, 51, 60, 66]⟩)], lookH [(17, ⟨[3, 4], [], [], [(0, [(6, .sc (.own 14 72 true))])], [14, 51, 60, 66]⟩), (15, ⟨[2, 3, 4, 7, 8, 9], [], [], [(0, [(6, .sc (.own 14 72 true))])], [14, 51, 60, 66]⟩), (12, ⟨[2, 3, 4, 8, 9], [], [], [(0, [(6, .sc (.own 14 72 true)), (7, .sc (.k .b))])], [14, 51, 60, 66]⟩)], lookH [(6, ⟨[2, 3], [], [(4, .box [.k .l]), (6, .sc (.own 14 72 true)), (7, .sc (.k .b)), (8, .sc (.k (.i .i64)))], [(1, [(4, .box [.k .l]), (5, .sc (.k .b))]), (2, [(4, .box [.k .l]), (6, .sc (.own 14 72 true)), (7, .sc (.k .b))])], [14, 51, 60, 66]⟩)]⟩
noncomputable def dR18Add (a a1 : MV) : Option MV :=
 gA a fun cs =>
 gC cs fun m msA =>
 gL m fun L =>
 gN msA <|
 gA a1 fun cs1 =>
 gC cs1 fun m1 msA1 =>
 gI .i64 m1 fun By =>
 gC msA1 fun m2 msA2 =>
 gI .i64 m2 fun View =>
 gC msA2 fun m3 msA3 =>
 gS m3 fun Value =>
 gN msA3 <|
 bd (dR18May (.agg [.i .i64 By, .i .i64 View, .s Value])) fun rA =>
 gB rA fun x =>
 ifB (!x) (
 some (.tup [.agg [.list L], .b false])) (
 bd (Loop (fun msA4 =>
 gC msA4 fun m4 msA5 =>
 gL m4 fun x1 =>
 gC msA5 fun m5 msA6 =>
 gL m5 fun xs =>
 gC msA6 fun m6 msA7 =>
 gB m6 fun x2 =>
 gC msA7 fun m7 msA8 =>
 gI .i64 m7 fun x3 =>
 gN msA8 <|
 lenN L fun len =>
 ifB (decide (x3 < (len : Int))) (
 idx L x3 fun y =>
 gA y fun cs2 =>
 gC cs2 fun m8 msA9 =>
 gI .i64 m8 fun By1 =>
 gC msA9 fun m9 msA10 =>
 gI .i64 m9 fun View1 =>
 gC msA10 fun m10 msA11 =>
 gS m10 fun Value1 =>
 gN msA11 <|
 bd (
 ifB (decide (By1 = By)) (
 some [.b (decide (View ≤ View1))]) (
 some [.b false])) fun vs =>
 gC vs fun m11 msA12 =>
 gB m11 fun x4 =>
 gN msA12 <|
 ifB x4 (
 some (.inr (1, [.list L, .b false]))) (
 bd (
 ifB (!x2) (
 some [.b (decide (By ≤ By1))]) (
 some [.b false])) fun vs1 =>
 gC vs1 fun m12 msA13 =>
 gB m12 fun x5 =>
 gN msA13 <|
 bd (
 ifB x5 (
 lenN xs fun len1 =>
 lenN ([.agg [.i .i64 By, .i .i64 View, .s Value]] : List MV) fun len2 =>
 chk (decide ((len1 + len2) * 32 ≤ 2 ^ 46)) <|
 some (0, [.list (xs ++ ([.agg [.i .i64 By, .i .i64 View, .s Value]] : List MV)), .b true])) (
 some (0, [.list xs, .b x2]))) fun p1 =>
 chk (Nat.beq p1.1 0) <|
 gC p1.2 fun m13 msA14 =>
 gL m13 fun xs1 =>
 gC msA14 fun m14 msA15 =>
 gB m14 fun x6 =>
 gN msA15 <|
 bd (
 ifB (!decide (By1 = By)) (
 lenN xs1 fun len3 =>
 lenN ([.agg [.i .i64 By1, .i .i64 View1, .s Value1]] : List MV) fun len4 =>
 chk (decide ((len3 + len4) * 32 ≤ 2 ^ 46)) <|
 some (0, [.list (xs1 ++ ([.agg [.i .i64 By1, .i .i64 View1, .s Value1]] : List MV))])) (
 some (0, [.list xs1]))) fun p2 =>
 chk (Nat.beq p2.1 0) <|
 gC p2.2 fun m15 msA16 =>
 gL m15 fun xs2 =>
 gN msA16 <|
 some (.inl [.list x1, .list xs2, .b x6, .i .i64 (IntKind.wrap .i64 (x3 + 1))]))) (
 some (.inr (2, [.list x1, .list xs, .b x2])))) [.list ([] : List MV), .list ([] : List MV), .b false, .i .i64 0]) fun p =>
 ifB (Nat.beq p.1 2) (
 gC p.2 fun m16 msA17 =>
 gL m16 fun x7 =>
 gC msA17 fun m17 msA18 =>
 gL m17 fun xs3 =>
 gC msA18 fun m18 msA19 =>
 gB m18 fun x8 =>
 gN msA19 <|
 bd (
 ifB (!x8) (
 lenN xs3 fun len5 =>
 lenN ([.agg [.i .i64 By, .i .i64 View, .s Value]] : List MV) fun len6 =>
 chk (decide ((len5 + len6) * 32 ≤ 2 ^ 46)) <|
 some (0, [.list (xs3 ++ ([.agg [.i .i64 By, .i .i64 View, .s Value]] : List MV))])) (
 some (0, [.list xs3]))) fun p5 =>
 chk (Nat.beq p5.1 0) <|
 gC p5.2 fun m19 msA20 =>
 gL m19 fun xs4 =>
 gN msA20 <|
 some (.tup [.agg [.list xs4], .b true])) (
 chk (Nat.beq p.1 1) <|
 gC p.2 fun m20 msA21 =>
 gL m20 fun x9 =>
 gC msA21 fun m21 msA22 =>
 gB m21 fun x10 =>
 gN msA22 <|
 some (.tup [.agg [.list x9], .b x10])))
theorem linkR18Add (a a1 : MV) : bodyK cxR18Add [] none Try.f84 [a, a1] = dR18Add a a1 := by kernel_rfl
noncomputable def gR18Add : Nat → List MV → Option MV := addG 84 (lst2 dR18Add) gAcceptorHear
theorem soundR18Add : SoundG Try.prog cx gR18Add :=
  soundAcceptorHear.fn (c' := cxR18Add) (caps := []) ⟨rfl, rfl, rfl, rfl, rfl, rfl, rfl⟩ rfl tab_ok eq_ok fk_ok mt_ok mix_ok Try.func84 (by kernel_rfl) (fun _ => rfl) (lst2_of linkR18Add)

noncomputable def cxR18Voters : Ctx := ⟨lookT tiTab, kk, gR18Add, gv, frs, lookN ftyOf, 44, [41], [], lookL [], lookF fkTab, lookM mtTab, lookL [], lookH [(5, ⟨[1, 2, 3, 7, 8], [9], [], [(0, [(34, .sc (.k .b))])], [9, 41]⟩)], lookH [(6, ⟨[1, 2, 3, 8], [], [], [(0, [(7, .sc (.own 9 72 true))])], [9, 41]⟩)], lookH [(3, ⟨[1, 2, 3], [], [(7, .sc (.own 9 72 true)), (8, .sc (.k (.i .i64)))], [(2, [(7, .sc (.own 9 72 true))])], [9, 41]⟩)]⟩
noncomputable def dR18Voters (t view value : MV) : Option MV :=
 gA t fun cs =>
 gC cs fun m msA =>
 gL m fun L =>
 gN msA <|
 gI .i64 view fun view1 =>
 gS value fun value1 =>
 bd (Loop (fun msA1 =>
 gC msA1 fun m1 msA2 =>
 gL m1 fun out =>
 gC msA2 fun m2 msA3 =>
 gI .i64 m2 fun i =>
 gN msA3 <|
 lenN L fun len =>
 ifB (decide (i < (len : Int))) (
 bd (
 idx L i fun y =>
 gA y fun cs1 =>
 gC cs1 fun m3 msA4 =>
 gI .i64 m3 fun By =>
 gC msA4 fun m4 msA5 =>
 gI .i64 m4 fun View =>
 gC msA5 fun m5 msA6 =>
 gS m5 fun Value =>
 gN msA6 <|
 ifB (decide (View = view1)) (
 idx L i fun y1 =>
 gA y1 fun cs2 =>
 gC cs2 fun m6 msA7 =>
 gI .i64 m6 fun By1 =>
 gC msA7 fun m7 msA8 =>
 gI .i64 m7 fun View1 =>
 gC msA8 fun m8 msA9 =>
 gS m8 fun Value1 =>
 gN msA9 <|
 some [.b (decide (Value1 = value1))]) (
 some [.b false])) fun vs =>
 gC vs fun m9 msA10 =>
 gB m9 fun x =>
 gN msA10 <|
 bd (
 ifB x (
 idx L i fun y2 =>
 gA y2 fun cs3 =>
 gC cs3 fun m10 msA11 =>
 gI .i64 m10 fun By2 =>
 gC msA11 fun m11 msA12 =>
 gI .i64 m11 fun View2 =>
 gC msA12 fun m12 msA13 =>
 gS m12 fun Value2 =>
 gN msA13 <|
 lenN out fun len1 =>
 lenN ([.agg [.i .i64 By2, .i .i64 View2, .s Value2]] : List MV) fun len2 =>
 chk (decide ((len1 + len2) * 32 ≤ 2 ^ 46)) <|
 some (0, [.list (out ++ ([.agg [.i .i64 By2, .i .i64 View2, .s Value2]] : List MV))])) (
 some (0, [.list out]))) fun p1 =>
 chk (Nat.beq p1.1 0) <|
 gC p1.2 fun m13 msA14 =>
 gL m13 fun out1 =>
 gN msA14 <|
 some (.inl [.list out1, .i .i64 (IntKind.wrap .i64 (i + 1))])) (
 some (.inr (2, [.list out])))) [.list ([] : List MV), .i .i64 0]) fun p =>
 chk (Nat.beq p.1 2) <|
 gC p.2 fun m14 msA15 =>
 gL m14 fun out2 =>
 gN msA15 <|
 some (.list out2)
theorem linkR18Voters (t view value : MV) : bodyK cxR18Voters [] none Try.f120 [t, view, value] = dR18Voters t view value := by kernel_rfl
noncomputable def gR18Voters : Nat → List MV → Option MV := addG 120 (lst3 dR18Voters) gR18Add
theorem soundR18Voters : SoundG Try.prog cx gR18Voters :=
  soundR18Add.fn (c' := cxR18Voters) (caps := []) ⟨rfl, rfl, rfl, rfl, rfl, rfl, rfl⟩ rfl tab_ok eq_ok fk_ok mt_ok mix_ok Try.func120 (by kernel_rfl) (fun _ => rfl) (lst3_of linkR18Voters)

noncomputable def cxR18Count : Ctx := ⟨lookT tiTab, kk, gR18Voters, gv, frs, lookN ftyOf, 12, [], [], lookL [], lookF fkTab, lookM mtTab, lookL [], lookH [], lookH [], lookH []⟩
noncomputable def dR18Count (t view value : MV) : Option MV :=
 gA t fun cs =>
 gC cs fun m msA =>
 gL m fun L =>
 gN msA <|
 gI .i64 view fun view1 =>
 gS value fun value1 =>
 bd (dR18Voters (.agg [.list L]) (.i .i64 view1) (.s value1)) fun rA =>
 gL rA fun x =>
 lenN x fun len =>
 some (.i .i64 (len : Int))
theorem linkR18Count (t view value : MV) : bodyK cxR18Count [] none Try.f128 [t, view, value] = dR18Count t view value := by kernel_rfl
noncomputable def gR18Count : Nat → List MV → Option MV := addG 128 (lst3 dR18Count) gR18Voters
theorem soundR18Count : SoundG Try.prog cx gR18Count :=
  soundR18Voters.fn (c' := cxR18Count) (caps := []) ⟨rfl, rfl, rfl, rfl, rfl, rfl, rfl⟩ rfl tab_ok eq_ok fk_ok mt_ok mix_ok Try.func128 (by kernel_rfl) (fun _ => rfl) (lst3_of linkR18Count)

noncomputable def cxR18Best : Ctx := ⟨lookT tiTab, kk, gR18Count, gv, frs, lookN ftyOf, 64, [], [], lookL [], lookF fkTab, lookM mtTab, lookL [(6, [0, 1, 2, 3, 4, 6, 5, 7, 8, 9, 10, 11, 12, 13, 14, 15, 16, 17, 18, 19, 20, 21, 22]), (10, [0, 1, 2, 3, 4, 5, 6, 7, 8, 9, 10, 11, 12, 13, 14])], lookH [(6, ⟨[1, 2, 7, 8, 9], [], [], [(0, [(48, .sc (.k .b))])], []⟩), (3, ⟨[1, 2, 7, 8], [], [], [(0, [(18, .sc (.k .b))])], []⟩)], lookH [(7, ⟨[1, 2, 8], [], [], [(0, [(7, .sc (.k (.i .i64)))])], []⟩)], lookH [(3, ⟨[1, 2], [], [(7, .sc (.k (.i .i64))), (8, .sc (.k (.i .i64)))], [(2, [(7, .sc (.k (.i .i64)))])], []⟩)]⟩
noncomputable def dR18Best (t need : MV) : Option MV :=
 gA t fun cs =>
 gC cs fun m msA =>
 gL m fun L =>
 gN msA <|
 gI .i64 need fun need1 =>
 bd (Loop (fun msA1 =>
 gC msA1 fun m1 msA2 =>
 gI .i64 m1 fun best =>
 gC msA2 fun m2 msA3 =>
 gI .i64 m2 fun i =>
 gN msA3 <|
 bd (
 lenN L fun len =>
 ifB (decide (i < (len : Int))) (
 some [.b (decide ((1 : Int) ≤ need1))]) (
 some [.b false])) fun vs =>
 gC vs fun m3 msA4 =>
 gB m3 fun x =>
 gN msA4 <|
 ifB x (
 idx L i fun y =>
 gA y fun cs1 =>
 gC cs1 fun m4 msA5 =>
 gI .i64 m4 fun By =>
 gC msA5 fun m5 msA6 =>
 gI .i64 m5 fun View =>
 gC msA6 fun m6 msA7 =>
 gS m6 fun Value =>
 gN msA7 <|
 bd (
 bd (dR18Count (.agg [.list L]) (.i .i64 View) (.s Value)) fun rA =>
 gI .i64 rA fun x1 =>
 ifB (decide (need1 ≤ x1)) (
 ifB (decide (best < 0)) (
 some [.b true]) (
 idx L best fun y1 =>
 gA y1 fun cs2 =>
 gC cs2 fun m7 msA8 =>
 gI .i64 m7 fun By1 =>
 gC msA8 fun m8 msA9 =>
 gI .i64 m8 fun View1 =>
 gC msA9 fun m9 msA10 =>
 gS m9 fun Value1 =>
 gN msA10 <|
 some [.b (decide (View1 < View))])) (
 some [.b false])) fun vs1 =>
 gC vs1 fun m10 msA11 =>
 gB m10 fun x2 =>
 gN msA11 <|
 bd (
 ifB x2 (
 some (0, [.i .i64 i])) (
 some (0, [.i .i64 best]))) fun p1 =>
 chk (Nat.beq p1.1 0) <|
 gC p1.2 fun m11 msA12 =>
 gI .i64 m11 fun best1 =>
 gN msA12 <|
 some (.inl [.i .i64 best1, .i .i64 (IntKind.wrap .i64 (i + 1))])) (
 some (.inr (2, [.i .i64 best])))) [.i .i64 (-1), .i .i64 0]) fun p =>
 chk (Nat.beq p.1 2) <|
 gC p.2 fun m12 msA13 =>
 gI .i64 m12 fun best2 =>
 gN msA13 <|
 ifB (decide (best2 < 0)) (
 some (.tup [.i .i64 0, .s ([] : List UInt8), .b false])) (
 idx L best2 fun y2 =>
 gA y2 fun cs3 =>
 gC cs3 fun m13 msA14 =>
 gI .i64 m13 fun By2 =>
 gC msA14 fun m14 msA15 =>
 gI .i64 m14 fun View2 =>
 gC msA15 fun m15 msA16 =>
 gS m15 fun Value2 =>
 gN msA16 <|
 idx L best2 fun y3 =>
 gA y3 fun cs4 =>
 gC cs4 fun m16 msA17 =>
 gI .i64 m16 fun By3 =>
 gC msA17 fun m17 msA18 =>
 gI .i64 m17 fun View3 =>
 gC msA18 fun m18 msA19 =>
 gS m18 fun Value3 =>
 gN msA19 <|
 some (.tup [.i .i64 View2, .s Value3, .b true]))
theorem linkR18Best (t need : MV) : bodyK cxR18Best [] none Try.f109 [t, need] = dR18Best t need := by kernel_rfl
noncomputable def gR18Best : Nat → List MV → Option MV := addG 109 (lst2 dR18Best) gR18Count
theorem soundR18Best : SoundG Try.prog cx gR18Best :=
  soundR18Count.fn (c' := cxR18Best) (caps := []) ⟨rfl, rfl, rfl, rfl, rfl, rfl, rfl⟩ rfl tab_ok eq_ok fk_ok mt_ok mix_ok Try.func109 (by kernel_rfl) (fun _ => rfl) (lst2_of linkR18Best)

noncomputable def cxR19Make : Ctx := ⟨lookT tiTab, kk, gR18Best, gv, frs, lookN ftyOf, 27, [], [], lookL [], lookF fkTab, lookM mtTab, lookL [], lookH [], lookH [], lookH []⟩
noncomputable def dR19Make (sA t : MV) : Option MV :=
 gA sA fun cs =>
 gC cs fun m msA =>
 gI .i64 m fun F =>
 gC msA fun m1 msA1 =>
 gI .i64 m1 fun T =>
 gN msA1 <|
 gA t fun cs1 =>
 gC cs1 fun m2 msA2 =>
 gL m2 fun L =>
 gN msA2 <|
 bd (dR07Proof (.agg [.i .i64 F, .i .i64 T])) fun rA =>
 gI .i64 rA fun x =>
 bd (dR18Best (.agg [.list L]) (.i .i64 x)) fun rA1 =>
 gT rA1 fun vs =>
 gC vs fun m3 msA3 =>
 gI .i64 m3 fun x1 =>
 gC msA3 fun m4 msA4 =>
 gS m4 fun x2 =>
 gC msA4 fun m5 msA5 =>
 gB m5 fun x3 =>
 gN msA5 <|
 ifB (!x3) (
 some (.tup [.list ([] : List MV), .b false])) (
 bd (dR18Voters (.agg [.list L]) (.i .i64 x1) (.s x2)) fun rA2 =>
 gL rA2 fun x4 =>
 lenN x4 fun len =>
 chk (decide ((0 : Int) ≤ 0 ∧ (0 : Int) ≤ x ∧ x ≤ (len : Int))) <|
 some (.tup [.list (List.drop (Int.toNat 0) (List.take (Int.toNat x) x4)), .b true]))
theorem linkR19Make (sA t : MV) : bodyK cxR19Make [] none Try.f97 [sA, t] = dR19Make sA t := by kernel_rfl
noncomputable def gR19Make : Nat → List MV → Option MV := addG 97 (lst2 dR19Make) gR18Best
theorem soundR19Make : SoundG Try.prog cx gR19Make :=
  soundR18Best.fn (c' := cxR19Make) (caps := []) ⟨rfl, rfl, rfl, rfl, rfl, rfl, rfl⟩ rfl tab_ok eq_ok fk_ok mt_ok mix_ok Try.func97 (by kernel_rfl) (fun _ => rfl) (lst2_of linkR19Make)

noncomputable def cxR21Hear : Ctx := ⟨lookT tiTab, kk, gR19Make, gv, frs, lookN ftyOf, 71, [], [], lookL [], lookF fkTab, lookM mtTab, lookL [(1, [0, 1, 2, 3, 4, 5, 6, 7, 8, 9, 10, 11, 12, 13, 14, 15, 16, 17])], lookH [(7, ⟨[2, 4, 9, 10, 11], [], [], [(0, [(65, .sc (.k .b))])], []⟩), (1, ⟨[2, 3, 4], [], [], [(0, [(31, .sc (.k .b))])], []⟩)], lookH [], lookH []⟩
noncomputable def dR21Hear (a a1 : MV) : Option MV :=
 gA a fun cs =>
 gC cs fun m msA =>
 gI .i64 m fun SF =>
 gC msA fun m1 msA1 =>
 gI .i64 m1 fun ST =>
 gC msA1 fun m2 msA2 =>
 gI .i64 m2 fun Me =>
 gC msA2 fun m3 msA3 =>
 gI .i64 m3 fun View =>
 gC msA3 fun m4 msA4 =>
 gB m4 fun Has =>
 gC msA4 fun m5 msA5 =>
 gI .i64 m5 fun At =>
 gC msA5 fun m6 msA6 =>
 gS m6 fun Value =>
 gC msA6 fun m7 msA7 =>
 gL m7 fun Proof =>
 gC msA7 fun m8 msA8 =>
 gL m8 fun VotesL =>
 gN msA8 <|
 gA a1 fun cs1 =>
 gC cs1 fun m9 msA9 =>
 gI .i64 m9 fun By =>
 gC msA9 fun m10 msA10 =>
 gI .i64 m10 fun View1 =>
 gC msA10 fun m11 msA11 =>
 gS m11 fun Value1 =>
 gN msA11 <|
 bd (
 bd (dR18May (.agg [.i .i64 By, .i .i64 View1, .s Value1])) fun rA =>
 gB rA fun x =>
 ifB (!x) (
 some [.b true]) (
 bd (dR07N (.agg [.i .i64 SF, .i .i64 ST])) fun rA1 =>
 gI .i64 rA1 fun x1 =>
 ifB (decide (x1 ≤ By)) (
 some [.b true]) (
 some [.b (!decide (View1 = View))]))) fun vs =>
 gC vs fun m12 msA12 =>
 gB m12 fun x2 =>
 gN msA12 <|
 ifB x2 (
 some (.tup [.agg [.i .i64 SF, .i .i64 ST, .i .i64 Me, .i .i64 View, .b Has, .i .i64 At, .s Value, .list Proof, .list VotesL], .list ([] : List MV), .b false])) (
 bd (dR18Add (.agg [.list VotesL]) (.agg [.i .i64 By, .i .i64 View1, .s Value1])) fun rA2 =>
 gT rA2 fun vs1 =>
 gC vs1 fun m13 msA13 =>
 gA m13 fun cs2 =>
 gC cs2 fun m14 msA14 =>
 gL m14 fun L =>
 gN msA14 <|
 gC msA13 fun m15 msA15 =>
 gB m15 fun x3 =>
 gN msA15 <|
 bd (dR19Make (.agg [.i .i64 SF, .i .i64 ST]) (.agg [.list L])) fun rA3 =>
 gT rA3 fun vs2 =>
 gC vs2 fun m16 msA16 =>
 gL m16 fun x4 =>
 gC msA16 fun m17 msA17 =>
 gB m17 fun x5 =>
 gN msA17 <|
 bd (dR19Of (.list Proof)) fun rA4 =>
 gT rA4 fun vs3 =>
 gC vs3 fun m18 msA18 =>
 gI .i64 m18 fun x6 =>
 gC msA18 fun m19 msA19 =>
 gS m19 fun x7 =>
 gC msA19 fun m20 msA20 =>
 gB m20 fun x8 =>
 gN msA20 <|
 bd (
 ifB (!x5) (
 some [.b true]) (
 idx x4 0 fun y =>
 gA y fun cs3 =>
 gC cs3 fun m21 msA21 =>
 gI .i64 m21 fun By1 =>
 gC msA21 fun m22 msA22 =>
 gI .i64 m22 fun View2 =>
 gC msA22 fun m23 msA23 =>
 gS m23 fun Value2 =>
 gN msA23 <|
 some [.b (decide (View2 ≤ x6))])) fun vs4 =>
 gC vs4 fun m24 msA24 =>
 gB m24 fun x9 =>
 gN msA24 <|
 ifB x9 (
 some (.tup [.agg [.i .i64 SF, .i .i64 ST, .i .i64 Me, .i .i64 View, .b Has, .i .i64 At, .s Value, .list Proof, .list L], .list ([] : List MV), .b false])) (
 some (.tup [.agg [.i .i64 SF, .i .i64 ST, .i .i64 Me, .i .i64 View, .b Has, .i .i64 At, .s Value, .list x4, .list L], .list x4, .b true])))
theorem linkR21Hear (a a1 : MV) : bodyK cxR21Hear [] none Try.f57 [a, a1] = dR21Hear a a1 := by kernel_rfl
noncomputable def gR21Hear : Nat → List MV → Option MV := addG 57 (lst2 dR21Hear) gR19Make
theorem soundR21Hear : SoundG Try.prog cx gR21Hear :=
  soundR19Make.fn (c' := cxR21Hear) (caps := []) ⟨rfl, rfl, rfl, rfl, rfl, rfl, rfl⟩ rfl tab_ok eq_ok fk_ok mt_ok mix_ok Try.func57 (by kernel_rfl) (fun _ => rfl) (lst2_of linkR21Hear)

noncomputable def cxL21AcceptorTurns : Ctx := ⟨lookT tiTab, kk, gR21Hear, gv, frs, lookN ftyOf, 165, [], [], lookL [], lookF fkTab, lookM mtTab, lookL [(6, [0, 2, 1, 3, 4, 5, 6, 7, 8, 9, 10, 11, 12, 13, 14, 15]), (10, [0, 2, 1, 3, 4, 5, 6, 7, 8, 9, 10, 11, 12, 13, 14]), (14, [0, 1, 2, 4, 3, 5, 6, 7, 8, 9, 10, 11, 12, 13, 14, 15, 16, 17, 18, 20, 19, 21, 22, 23])], lookH [(14, ⟨[2, 5, 18, 19, 20, 21, 22, 23], [], [], [(0, [(4, .sc (.k .b))])], []⟩), (10, ⟨[2, 3, 5, 12, 13, 14, 15, 16, 17], [], [], [(0, [(125, .sc (.k .b))])], []⟩), (6, ⟨[2, 3, 5, 6, 7, 8, 9, 10, 11], [], [], [(0, [(86, .sc (.k .b))])], []⟩), (1, ⟨[2, 3], [], [], [(0, [(51, .sc (.k .b))])], []⟩)], lookH [], lookH []⟩
noncomputable def dL21AcceptorTurns (a a1 : MV) : Option MV :=
 gA a fun cs =>
 gC cs fun m msA =>
 gI .i64 m fun SF =>
 gC msA fun m1 msA1 =>
 gI .i64 m1 fun ST =>
 gC msA1 fun m2 msA2 =>
 gI .i64 m2 fun Me =>
 gC msA2 fun m3 msA3 =>
 gI .i64 m3 fun View =>
 gC msA3 fun m4 msA4 =>
 gB m4 fun Has =>
 gC msA4 fun m5 msA5 =>
 gI .i64 m5 fun At =>
 gC msA5 fun m6 msA6 =>
 gS m6 fun Value =>
 gC msA6 fun m7 msA7 =>
 gL m7 fun Proof =>
 gC msA7 fun m8 msA8 =>
 gL m8 fun VotesL =>
 gN msA8 <|
 gA a1 fun cs1 =>
 gC cs1 fun m9 msA9 =>
 gI .i64 m9 fun View1 =>
 gC msA9 fun m10 msA10 =>
 gS m10 fun Value1 =>
 gC msA10 fun m11 msA11 =>
 gL m11 fun Cert =>
 gC msA11 fun m12 msA12 =>
 gI .i64 m12 fun VoteBy =>
 gC msA12 fun m13 msA13 =>
 gI .i64 m13 fun VoteView =>
 gC msA13 fun m14 msA14 =>
 gS m14 fun VoteValue =>
 gN msA14 <|
 bd (
 bd (dL21Few (.agg [.i .i64 SF, .i .i64 ST, .i .i64 Me, .i .i64 View, .b Has, .i .i64 At, .s Value, .list Proof, .list VotesL])) fun rA =>
 gB rA fun x =>
 ifB (!x) (
 some [.b true]) (
 bd (dL21Short (.list Cert)) fun rA1 =>
 gB rA1 fun x1 =>
 ifB (!x1) (
 some [.b true]) (
 ifB (decide ((6100 : Int) < (Value1.length : Int))) (
 some [.b true]) (
 ifB (decide ((6100 : Int) < (VoteValue.length : Int))) (
 some [.b true]) (
 bd (dL21Plain (.agg [.i .i64 SF, .i .i64 ST, .i .i64 Me, .i .i64 View, .b Has, .i .i64 At, .s Value, .list Proof, .list VotesL])) fun rA2 =>
 gA rA2 fun cs2 =>
 gC cs2 fun m15 msA15 =>
 gI .i64 m15 fun SF1 =>
 gC msA15 fun m16 msA16 =>
 gI .i64 m16 fun ST1 =>
 gC msA16 fun m17 msA17 =>
 gI .i64 m17 fun Me1 =>
 gC msA17 fun m18 msA18 =>
 gI .i64 m18 fun View2 =>
 gC msA18 fun m19 msA19 =>
 gB m19 fun Has1 =>
 gC msA19 fun m20 msA20 =>
 gI .i64 m20 fun At1 =>
 gC msA20 fun m21 msA21 =>
 gS m21 fun Value2 =>
 gC msA21 fun m22 msA22 =>
 gL m22 fun Proof1 =>
 gC msA22 fun m23 msA23 =>
 gL m23 fun VotesL1 =>
 gN msA23 <|
 bd (dR21Right (.agg [.i .i64 SF1, .i .i64 ST1, .i .i64 Me1, .i .i64 View2, .b Has1, .i .i64 At1, .s Value2, .list Proof1, .list VotesL1])) fun rA3 =>
 gB rA3 fun x2 =>
 some [.b (!x2)]))))) fun vs =>
 gC vs fun m24 msA24 =>
 gB m24 fun x3 =>
 gN msA24 <|
 ifB x3 (
 bd (dL21Alive) fun rA4 =>
 gB rA4 fun x4 =>
 some (.b x4)) (
 bd (dL21Plain (.agg [.i .i64 SF, .i .i64 ST, .i .i64 Me, .i .i64 View, .b Has, .i .i64 At, .s Value, .list Proof, .list VotesL])) fun rA5 =>
 gA rA5 fun cs3 =>
 gC cs3 fun m25 msA25 =>
 gI .i64 m25 fun SF2 =>
 gC msA25 fun m26 msA26 =>
 gI .i64 m26 fun ST2 =>
 gC msA26 fun m27 msA27 =>
 gI .i64 m27 fun Me2 =>
 gC msA27 fun m28 msA28 =>
 gI .i64 m28 fun View3 =>
 gC msA28 fun m29 msA29 =>
 gB m29 fun Has2 =>
 gC msA29 fun m30 msA30 =>
 gI .i64 m30 fun At2 =>
 gC msA30 fun m31 msA31 =>
 gS m31 fun Value3 =>
 gC msA31 fun m32 msA32 =>
 gL m32 fun Proof2 =>
 gC msA32 fun m33 msA33 =>
 gL m33 fun VotesL2 =>
 gN msA33 <|
 bd (dAcceptorEnter (.agg [.i .i64 SF, .i .i64 ST, .i .i64 Me, .i .i64 View, .b Has, .i .i64 At, .s Value, .list Proof, .list VotesL]) (.i .i64 View1)) fun rA6 =>
 gT rA6 fun vs1 =>
 gC vs1 fun m34 msA34 =>
 gA m34 fun cs4 =>
 gC cs4 fun m35 msA35 =>
 gI .i64 m35 fun SF3 =>
 gC msA35 fun m36 msA36 =>
 gI .i64 m36 fun ST3 =>
 gC msA36 fun m37 msA37 =>
 gI .i64 m37 fun Me3 =>
 gC msA37 fun m38 msA38 =>
 gI .i64 m38 fun View4 =>
 gC msA38 fun m39 msA39 =>
 gB m39 fun Has3 =>
 gC msA39 fun m40 msA40 =>
 gI .i64 m40 fun At3 =>
 gC msA40 fun m41 msA41 =>
 gS m41 fun Value4 =>
 gC msA41 fun m42 msA42 =>
 gL m42 fun Proof3 =>
 gC msA42 fun m43 msA43 =>
 gL m43 fun VotesL3 =>
 gN msA43 <|
 gC msA34 fun m44 msA44 =>
 gA m44 fun cs5 =>
 gC cs5 fun m45 msA45 =>
 gI .i64 m45 fun By =>
 gC msA45 fun m46 msA46 =>
 gI .i64 m46 fun For =>
 gC msA46 fun m47 msA47 =>
 gB m47 fun Has4 =>
 gC msA47 fun m48 msA48 =>
 gI .i64 m48 fun View5 =>
 gC msA48 fun m49 msA49 =>
 gS m49 fun Value5 =>
 gC msA49 fun m50 msA50 =>
 gL m50 fun Proof4 =>
 gN msA50 <|
 gC msA44 fun m51 msA51 =>
 gB m51 fun x5 =>
 gN msA51 <|
 bd (dR21Enter (.agg [.i .i64 SF2, .i .i64 ST2, .i .i64 Me2, .i .i64 View3, .b Has2, .i .i64 At2, .s Value3, .list Proof2, .list VotesL2]) (.i .i64 View1)) fun rA7 =>
 gT rA7 fun vs2 =>
 gC vs2 fun m52 msA52 =>
 gA m52 fun cs6 =>
 gC cs6 fun m53 msA53 =>
 gI .i64 m53 fun SF4 =>
 gC msA53 fun m54 msA54 =>
 gI .i64 m54 fun ST4 =>
 gC msA54 fun m55 msA55 =>
 gI .i64 m55 fun Me4 =>
 gC msA55 fun m56 msA56 =>
 gI .i64 m56 fun View6 =>
 gC msA56 fun m57 msA57 =>
 gB m57 fun Has5 =>
 gC msA57 fun m58 msA58 =>
 gI .i64 m58 fun At4 =>
 gC msA58 fun m59 msA59 =>
 gS m59 fun Value6 =>
 gC msA59 fun m60 msA60 =>
 gL m60 fun Proof5 =>
 gC msA60 fun m61 msA61 =>
 gL m61 fun VotesL4 =>
 gN msA61 <|
 gC msA52 fun m62 msA62 =>
 gA m62 fun cs7 =>
 gC cs7 fun m63 msA63 =>
 gI .i64 m63 fun By1 =>
 gC msA63 fun m64 msA64 =>
 gI .i64 m64 fun For1 =>
 gC msA64 fun m65 msA65 =>
 gB m65 fun Has6 =>
 gC msA65 fun m66 msA66 =>
 gI .i64 m66 fun View7 =>
 gC msA66 fun m67 msA67 =>
 gS m67 fun Value7 =>
 gC msA67 fun m68 msA68 =>
 gL m68 fun Proof6 =>
 gN msA68 <|
 gC msA62 fun m69 msA69 =>
 gB m69 fun x6 =>
 gN msA69 <|
 bd (
 bd (dL21Plain (.agg [.i .i64 SF3, .i .i64 ST3, .i .i64 Me3, .i .i64 View4, .b Has3, .i .i64 At3, .s Value4, .list Proof3, .list VotesL3])) fun rA8 =>
 gA rA8 fun cs8 =>
 gC cs8 fun m70 msA70 =>
 gI .i64 m70 fun SF5 =>
 gC msA70 fun m71 msA71 =>
 gI .i64 m71 fun ST5 =>
 gC msA71 fun m72 msA72 =>
 gI .i64 m72 fun Me5 =>
 gC msA72 fun m73 msA73 =>
 gI .i64 m73 fun View8 =>
 gC msA73 fun m74 msA74 =>
 gB m74 fun Has7 =>
 gC msA74 fun m75 msA75 =>
 gI .i64 m75 fun At5 =>
 gC msA75 fun m76 msA76 =>
 gS m76 fun Value8 =>
 gC msA76 fun m77 msA77 =>
 gL m77 fun Proof7 =>
 gC msA77 fun m78 msA78 =>
 gL m78 fun VotesL5 =>
 gN msA78 <|
 bd (dR21Same (.agg [.i .i64 SF5, .i .i64 ST5, .i .i64 Me5, .i .i64 View8, .b Has7, .i .i64 At5, .s Value8, .list Proof7, .list VotesL5]) (.agg [.i .i64 SF4, .i .i64 ST4, .i .i64 Me4, .i .i64 View6, .b Has5, .i .i64 At4, .s Value6, .list Proof5, .list VotesL4])) fun rA9 =>
 gB rA9 fun x7 =>
 ifB (!x7) (
 some [.b true]) (
 bd (dR20One (.agg [.i .i64 By, .i .i64 For, .b Has4, .i .i64 View5, .s Value5, .list Proof4]) (.agg [.i .i64 By1, .i .i64 For1, .b Has6, .i .i64 View7, .s Value7, .list Proof6])) fun rA10 =>
 gB rA10 fun x8 =>
 ifB (!x8) (
 some [.b true]) (
 some [.b (!(decide (x5 = x6)))]))) fun vs3 =>
 gC vs3 fun m79 msA79 =>
 gB m79 fun x9 =>
 gN msA79 <|
 ifB x9 (
 some (.b false)) (
 bd (dAcceptorPropose (.agg [.i .i64 SF, .i .i64 ST, .i .i64 Me, .i .i64 View, .b Has, .i .i64 At, .s Value, .list Proof, .list VotesL]) (.i .i64 View1) (.s Value1) (.list Cert)) fun rA11 =>
 gT rA11 fun vs4 =>
 gC vs4 fun m80 msA80 =>
 gA m80 fun cs9 =>
 gC cs9 fun m81 msA81 =>
 gI .i64 m81 fun SF6 =>
 gC msA81 fun m82 msA82 =>
 gI .i64 m82 fun ST6 =>
 gC msA82 fun m83 msA83 =>
 gI .i64 m83 fun Me6 =>
 gC msA83 fun m84 msA84 =>
 gI .i64 m84 fun View9 =>
 gC msA84 fun m85 msA85 =>
 gB m85 fun Has8 =>
 gC msA85 fun m86 msA86 =>
 gI .i64 m86 fun At6 =>
 gC msA86 fun m87 msA87 =>
 gS m87 fun Value9 =>
 gC msA87 fun m88 msA88 =>
 gL m88 fun Proof8 =>
 gC msA88 fun m89 msA89 =>
 gL m89 fun VotesL6 =>
 gN msA89 <|
 gC msA80 fun m90 msA90 =>
 gA m90 fun cs10 =>
 gC cs10 fun m91 msA91 =>
 gI .i64 m91 fun By2 =>
 gC msA91 fun m92 msA92 =>
 gI .i64 m92 fun View10 =>
 gC msA92 fun m93 msA93 =>
 gS m93 fun Value10 =>
 gN msA93 <|
 gC msA90 fun m94 msA94 =>
 gB m94 fun x10 =>
 gN msA94 <|
 bd (dR21Propose (.agg [.i .i64 SF2, .i .i64 ST2, .i .i64 Me2, .i .i64 View3, .b Has2, .i .i64 At2, .s Value3, .list Proof2, .list VotesL2]) (.i .i64 View1) (.s Value1) (.list Cert)) fun rA12 =>
 gT rA12 fun vs5 =>
 gC vs5 fun m95 msA95 =>
 gA m95 fun cs11 =>
 gC cs11 fun m96 msA96 =>
 gI .i64 m96 fun SF7 =>
 gC msA96 fun m97 msA97 =>
 gI .i64 m97 fun ST7 =>
 gC msA97 fun m98 msA98 =>
 gI .i64 m98 fun Me7 =>
 gC msA98 fun m99 msA99 =>
 gI .i64 m99 fun View11 =>
 gC msA99 fun m100 msA100 =>
 gB m100 fun Has9 =>
 gC msA100 fun m101 msA101 =>
 gI .i64 m101 fun At7 =>
 gC msA101 fun m102 msA102 =>
 gS m102 fun Value11 =>
 gC msA102 fun m103 msA103 =>
 gL m103 fun Proof9 =>
 gC msA103 fun m104 msA104 =>
 gL m104 fun VotesL7 =>
 gN msA104 <|
 gC msA95 fun m105 msA105 =>
 gA m105 fun cs12 =>
 gC cs12 fun m106 msA106 =>
 gI .i64 m106 fun By3 =>
 gC msA106 fun m107 msA107 =>
 gI .i64 m107 fun View12 =>
 gC msA107 fun m108 msA108 =>
 gS m108 fun Value12 =>
 gN msA108 <|
 gC msA105 fun m109 msA109 =>
 gB m109 fun x11 =>
 gN msA109 <|
 bd (
 bd (dL21Plain (.agg [.i .i64 SF6, .i .i64 ST6, .i .i64 Me6, .i .i64 View9, .b Has8, .i .i64 At6, .s Value9, .list Proof8, .list VotesL6])) fun rA13 =>
 gA rA13 fun cs13 =>
 gC cs13 fun m110 msA110 =>
 gI .i64 m110 fun SF8 =>
 gC msA110 fun m111 msA111 =>
 gI .i64 m111 fun ST8 =>
 gC msA111 fun m112 msA112 =>
 gI .i64 m112 fun Me8 =>
 gC msA112 fun m113 msA113 =>
 gI .i64 m113 fun View13 =>
 gC msA113 fun m114 msA114 =>
 gB m114 fun Has10 =>
 gC msA114 fun m115 msA115 =>
 gI .i64 m115 fun At8 =>
 gC msA115 fun m116 msA116 =>
 gS m116 fun Value13 =>
 gC msA116 fun m117 msA117 =>
 gL m117 fun Proof10 =>
 gC msA117 fun m118 msA118 =>
 gL m118 fun VotesL8 =>
 gN msA118 <|
 bd (dR21Same (.agg [.i .i64 SF8, .i .i64 ST8, .i .i64 Me8, .i .i64 View13, .b Has10, .i .i64 At8, .s Value13, .list Proof10, .list VotesL8]) (.agg [.i .i64 SF7, .i .i64 ST7, .i .i64 Me7, .i .i64 View11, .b Has9, .i .i64 At7, .s Value11, .list Proof9, .list VotesL7])) fun rA14 =>
 gB rA14 fun x12 =>
 ifB (!x12) (
 some [.b true]) (
 ifB (!((decide (By2 = By3)) && ((decide (View10 = View12)) && (decide (Value10 = Value12))))) (
 some [.b true]) (
 some [.b (!(decide (x10 = x11)))]))) fun vs6 =>
 gC vs6 fun m119 msA119 =>
 gB m119 fun x13 =>
 gN msA119 <|
 ifB x13 (
 some (.b false)) (
 bd (dAcceptorHear (.agg [.i .i64 SF, .i .i64 ST, .i .i64 Me, .i .i64 View, .b Has, .i .i64 At, .s Value, .list Proof, .list VotesL]) (.agg [.i .i64 VoteBy, .i .i64 VoteView, .s VoteValue])) fun rA15 =>
 gT rA15 fun vs7 =>
 gC vs7 fun m120 msA120 =>
 gA m120 fun cs14 =>
 gC cs14 fun m121 msA121 =>
 gI .i64 m121 fun SF9 =>
 gC msA121 fun m122 msA122 =>
 gI .i64 m122 fun ST9 =>
 gC msA122 fun m123 msA123 =>
 gI .i64 m123 fun Me9 =>
 gC msA123 fun m124 msA124 =>
 gI .i64 m124 fun View14 =>
 gC msA124 fun m125 msA125 =>
 gB m125 fun Has11 =>
 gC msA125 fun m126 msA126 =>
 gI .i64 m126 fun At9 =>
 gC msA126 fun m127 msA127 =>
 gS m127 fun Value14 =>
 gC msA127 fun m128 msA128 =>
 gL m128 fun Proof11 =>
 gC msA128 fun m129 msA129 =>
 gL m129 fun VotesL9 =>
 gN msA129 <|
 gC msA120 fun m130 msA130 =>
 gL m130 fun x14 =>
 gC msA130 fun m131 msA131 =>
 gB m131 fun x15 =>
 gN msA131 <|
 bd (dR21Hear (.agg [.i .i64 SF2, .i .i64 ST2, .i .i64 Me2, .i .i64 View3, .b Has2, .i .i64 At2, .s Value3, .list Proof2, .list VotesL2]) (.agg [.i .i64 VoteBy, .i .i64 VoteView, .s VoteValue])) fun rA16 =>
 gT rA16 fun vs8 =>
 gC vs8 fun m132 msA132 =>
 gA m132 fun cs15 =>
 gC cs15 fun m133 msA133 =>
 gI .i64 m133 fun SF10 =>
 gC msA133 fun m134 msA134 =>
 gI .i64 m134 fun ST10 =>
 gC msA134 fun m135 msA135 =>
 gI .i64 m135 fun Me10 =>
 gC msA135 fun m136 msA136 =>
 gI .i64 m136 fun View15 =>
 gC msA136 fun m137 msA137 =>
 gB m137 fun Has12 =>
 gC msA137 fun m138 msA138 =>
 gI .i64 m138 fun At10 =>
 gC msA138 fun m139 msA139 =>
 gS m139 fun Value15 =>
 gC msA139 fun m140 msA140 =>
 gL m140 fun Proof12 =>
 gC msA140 fun m141 msA141 =>
 gL m141 fun VotesL10 =>
 gN msA141 <|
 gC msA132 fun m142 msA142 =>
 gL m142 fun x16 =>
 gC msA142 fun m143 msA143 =>
 gB m143 fun x17 =>
 gN msA143 <|
 bd (
 bd (dL21Alive) fun rA17 =>
 gB rA17 fun x18 =>
 ifB x18 (
 bd (dL21Plain (.agg [.i .i64 SF9, .i .i64 ST9, .i .i64 Me9, .i .i64 View14, .b Has11, .i .i64 At9, .s Value14, .list Proof11, .list VotesL9])) fun rA18 =>
 gA rA18 fun cs16 =>
 gC cs16 fun m144 msA144 =>
 gI .i64 m144 fun SF11 =>
 gC msA144 fun m145 msA145 =>
 gI .i64 m145 fun ST11 =>
 gC msA145 fun m146 msA146 =>
 gI .i64 m146 fun Me11 =>
 gC msA146 fun m147 msA147 =>
 gI .i64 m147 fun View16 =>
 gC msA147 fun m148 msA148 =>
 gB m148 fun Has13 =>
 gC msA148 fun m149 msA149 =>
 gI .i64 m149 fun At11 =>
 gC msA149 fun m150 msA150 =>
 gS m150 fun Value16 =>
 gC msA150 fun m151 msA151 =>
 gL m151 fun Proof13 =>
 gC msA151 fun m152 msA152 =>
 gL m152 fun VotesL11 =>
 gN msA152 <|
 bd (dR21Same (.agg [.i .i64 SF11, .i .i64 ST11, .i .i64 Me11, .i .i64 View16, .b Has13, .i .i64 At11, .s Value16, .list Proof13, .list VotesL11]) (.agg [.i .i64 SF10, .i .i64 ST10, .i .i64 Me10, .i .i64 View15, .b Has12, .i .i64 At10, .s Value15, .list Proof12, .list VotesL10])) fun rA19 =>
 gB rA19 fun x19 =>
 ifB x19 (
 bd (dR18Same (.list x14) (.list x16)) fun rA20 =>
 gB rA20 fun x20 =>
 ifB x20 (
 ifB (decide (x15 = x17)) (
 bd (dL21Plain (.agg [.i .i64 SF, .i .i64 ST, .i .i64 Me, .i .i64 View, .b Has, .i .i64 At, .s Value, .list Proof, .list VotesL])) fun rA21 =>
 gA rA21 fun cs17 =>
 gC cs17 fun m153 msA153 =>
 gI .i64 m153 fun SF12 =>
 gC msA153 fun m154 msA154 =>
 gI .i64 m154 fun ST12 =>
 gC msA154 fun m155 msA155 =>
 gI .i64 m155 fun Me12 =>
 gC msA155 fun m156 msA156 =>
 gI .i64 m156 fun View17 =>
 gC msA156 fun m157 msA157 =>
 gB m157 fun Has14 =>
 gC msA157 fun m158 msA158 =>
 gI .i64 m158 fun At12 =>
 gC msA158 fun m159 msA159 =>
 gS m159 fun Value17 =>
 gC msA159 fun m160 msA160 =>
 gL m160 fun Proof14 =>
 gC msA160 fun m161 msA161 =>
 gL m161 fun VotesL12 =>
 gN msA161 <|
 bd (dR21Same (.agg [.i .i64 SF12, .i .i64 ST12, .i .i64 Me12, .i .i64 View17, .b Has14, .i .i64 At12, .s Value17, .list Proof14, .list VotesL12]) (.agg [.i .i64 SF2, .i .i64 ST2, .i .i64 Me2, .i .i64 View3, .b Has2, .i .i64 At2, .s Value3, .list Proof2, .list VotesL2])) fun rA22 =>
 gB rA22 fun x21 =>
 some [.b x21]) (
 some [.b false])) (
 some [.b false])) (
 some [.b false])) (
 some [.b false])) fun vs9 =>
 gC vs9 fun m162 msA162 =>
 gB m162 fun x22 =>
 gN msA162 <|
 some (.b x22))))
theorem linkL21AcceptorTurns (a a1 : MV) : bodyK cxL21AcceptorTurns [] none Try.f9 [a, a1] = dL21AcceptorTurns a a1 := by kernel_rfl
noncomputable def gL21AcceptorTurns : Nat → List MV → Option MV := addG 9 (lst2 dL21AcceptorTurns) gR21Hear
theorem soundL21AcceptorTurns : SoundG Try.prog cx gL21AcceptorTurns :=
  soundR21Hear.fn (c' := cxL21AcceptorTurns) (caps := []) ⟨rfl, rfl, rfl, rfl, rfl, rfl, rfl⟩ rfl tab_ok eq_ok fk_ok mt_ok mix_ok Try.func9 (by kernel_rfl) (fun _ => rfl) (lst2_of linkL21AcceptorTurns)
end Dn.S
