import Derived.Test.YtjblhgpbkfmkoaaDnYTab
import Derived.Test.YtjblhgpbkfmkoaaDnC
import Derived.Test.YtjblhgpbkfmkoaaDnD
import Derived.Test.YtjblhgpbkfmkoaaDnYT
import Derived.KernelRfl
import Derived.Test.YtjblhgpbkfmkoaaProg
/-
  The functions, on plain values, and their contracts. Conditions: none.
-/
open Go Dn Go.Proofs
set_option linter.unusedVariables false
set_option linter.unusedSimpArgs false
set_option maxRecDepth 100000
namespace Dn.S
theorem tab_ok : TIok Try.prog (lookT tiTab) := tabB_ok (by kernel_rfl)
theorem eq_ok : EqOK Try.prog (lookT tiTab) := eqTabB_ok (by kernel_rfl)
theorem mix_ok : Try.prog.follows .mixedOrders = true := by kernel_rfl
def oII {R : Type} (k0 k1 : IntKind) (l0 : List MV) (K : Int → Int → Option R) : Option R := gC l0 fun m0 l1 => gI k0 m0 fun x0 => gC l1 fun m1 l2 => gI k1 m1 fun x1 => gN l2 <| K x0 x1
def oIIBISL {R : Type} (k0 k1 k3 : IntKind) (l0 : List MV) (K : Int → Int → Bool → Int → List UInt8 → List MV → Option R) : Option R := gC l0 fun m0 l1 => gI k0 m0 fun x0 => gC l1 fun m1 l2 => gI k1 m1 fun x1 => gC l2 fun m2 l3 => gB m2 fun x2 => gC l3 fun m3 l4 => gI k3 m3 fun x3 => gC l4 fun m4 l5 => gS m4 fun x4 => gC l5 fun m5 l6 => gL m5 fun x5 => gN l6 <| K x0 x1 x2 x3 x4 x5
def oIIIIBISLL {R : Type} (k0 k1 k2 k3 k5 : IntKind) (l0 : List MV) (K : Int → Int → Int → Int → Bool → Int → List UInt8 → List MV → List MV → Option R) : Option R := gC l0 fun m0 l1 => gI k0 m0 fun x0 => gC l1 fun m1 l2 => gI k1 m1 fun x1 => gC l2 fun m2 l3 => gI k2 m2 fun x2 => gC l3 fun m3 l4 => gI k3 m3 fun x3 => gC l4 fun m4 l5 => gB m4 fun x4 => gC l5 fun m5 l6 => gI k5 m5 fun x5 => gC l6 fun m6 l7 => gS m6 fun x6 => gC l7 fun m7 l8 => gL m7 fun x7 => gC l8 fun m8 l9 => gL m8 fun x8 => gN l9 <| K x0 x1 x2 x3 x4 x5 x6 x7 x8
def oIIS {R : Type} (k0 k1 : IntKind) (l0 : List MV) (K : Int → Int → List UInt8 → Option R) : Option R := gC l0 fun m0 l1 => gI k0 m0 fun x0 => gC l1 fun m1 l2 => gI k1 m1 fun x1 => gC l2 fun m2 l3 => gS m2 fun x2 => gN l3 <| K x0 x1 x2
def oISB {R : Type} (k0 : IntKind) (l0 : List MV) (K : Int → List UInt8 → Bool → Option R) : Option R := gC l0 fun m0 l1 => gI k0 m0 fun x0 => gC l1 fun m1 l2 => gS m1 fun x1 => gC l2 fun m2 l3 => gB m2 fun x2 => gN l3 <| K x0 x1 x2
@[reducible] def uIIBISL (x0 : Int) (x1 : Int) (x2 : Bool) (x3 : Int) (x4 : List UInt8) (x5 : List MV) : List MV := [.i .i64 x0, .i .i64 x1, .b x2, .i .i64 x3, .s x4, .list x5]
@[reducible] def uIIIIBISLL (x0 : Int) (x1 : Int) (x2 : Int) (x3 : Int) (x4 : Bool) (x5 : Int) (x6 : List UInt8) (x7 : List MV) (x8 : List MV) : List MV := [.i .i64 x0, .i .i64 x1, .i .i64 x2, .i .i64 x3, .b x4, .i .i64 x5, .s x6, .list x7, .list x8]
def lookH : List (Nat × Hint) → Nat → Hint
  | [], _ => default
  | (k, s) :: r, t => bif Nat.beq k t then s else lookH r t
def lookL : List (Nat × List Nat) → Nat → List Nat
  | [], _ => []
  | (k, s) :: r, t => bif Nat.beq k t then s else lookL r t
def lookN : List (Nat × Nat) → Nat → Nat
  | [], _ => 0
  | (k, s) :: r, t => bif Nat.beq k t then s else lookN r t
def kk (n : Nat) : Nat := n
def gv (n : Nat) : Bool := nmem [118] n
def frs (n : Nat) : Bool := nmem [117, 118, 106, 78, 79, 107, 81, 82, 126] n
def ftyOf : List (Nat × Nat) := [(117, 72), (118, 72), (106, 5), (78, 5), (79, 5), (107, 5), (81, 5), (82, 5)]
def lookF : List (Nat × FloatKind) → Nat → Option FloatKind
  | [], _ => none
  | (k, s) :: r, t => bif Nat.beq k t then some s else lookF r t
def fkTab : List (Nat × FloatKind) := [(170, .f64)]
theorem fk_ok : ∀ t k, lookF fkTab t = some k → Try.prog.underlying t = some (.float k) := by
  intro t k h
  unfold fkTab at h
  simp only [lookF] at h
  cases hb : Nat.beq 170 t with
  | true =>
    rw [hb] at h
    have ht := Nat.eq_of_beq_eq_true hb
    subst ht
    simp only [cond_true, Option.some.injEq] at h
    subst h
    exact Try.underlying170
  | false =>
  rw [hb] at h
  simp only [cond_false] at h
  cases h
def mtTab : List (Nat × (Nat × Bool)) := [(184, (186, false)), (190, (9, false))]
def lookG : List (Nat × (Nat × List LK)) → Nat → Option (Nat × List LK)
  | [], _ => none
  | (k, s) :: r, t => bif Nat.beq k t then some s else lookG r t
def sigTab : List (Nat × (Nat × List LK)) := []
def dl (n : Nat) : Bool := nmem [] n
def cx : Ctx := ⟨lookT tiTab, kk, fun _ _ => none, gv, frs, lookN ftyOf, lookG sigTab, [], 0, [], [], fun _ => [], lookF fkTab, lookM mtTab, fun _ => [], fun _ => default, fun _ => default, fun _ => default, dl, []⟩
def mkC (g : Nat → List MV → Option MV) (par : List (Nat × Nat)) (n : Nat) (bs fl : List Nat) (fz ord : List (Nat × List Nat)) (reg cnd lop : List (Nat × Hint)) (dyn : List Nat) : Ctx := ⟨lookT tiTab, kk, g, gv, frs, lookN ftyOf, lookG sigTab, par, n, bs, fl, lookL fz, lookF fkTab, lookM mtTab, lookL ord, lookH reg, lookH cnd, lookH lop, dl, dyn⟩
theorem mt_ok : MapTys Try.prog cx := mapTabB_ok (l := mtTab) (by kernel_rfl) (fun _ _ h => h)
def tiAt (t : Nat) : TI := match lookT tiTab t with | some I => I | none => ⟨false, 0, 0, [], [], [], [], 0, []⟩
theorem tv24 : cx.tv 24 = some (tiAt 24) := by kernel_rfl
theorem tv72 : cx.tv 72 = some (tiAt 72) := by kernel_rfl
theorem dels_ok : DelsOK Try.prog cx := by
  intro n hn
  unfold cx dl nmem at hn
  cases hn
theorem hand117 {g : Nat → List MV → Option MV} (h : SoundG Try.prog cx g) : SoundG Try.prog cx (addG 117 (cloneF 3 32) g) := h.add1 (fun _ => rfl) (fun ms r hr => by
  obtain ⟨xs, rfl, rfl, h1, h2⟩ := cloneF_some hr
  exact clone_ok (P := Try.prog) (c := cx) (f := 117) (fn := Try.f117) (t := 24) (I := tiAt 24) (E := tiAt 72) (i0 := 0) (i1 := 1) (i2 := 2) (i3 := 3) (oA := opAt Try.f117 noOp 0) (oB := opAt Try.f117 noOp 1) (oC := opAt Try.f117 noOp 2) (oD := opAt Try.f117 noOp 3) (oE := opAt Try.f117 noOp 4) (oF := opAt Try.f117 noOp 5) (oG := opAt Try.f117 noOp 6) (oH := opAt Try.f117 noOp 7) tab_ok tv24 (by kernel_rfl) tv72 (Nat.le_of_ble_eq_true (by kernel_rfl)) (by kernel_rfl) (by kernel_rfl) Try.func117 (by kernel_rfl) (by kernel_rfl) (by kernel_rfl) (by kernel_rfl)
    ⟨by kernel_rfl, by kernel_rfl, by kernel_rfl⟩ ⟨by kernel_rfl, by kernel_rfl, by kernel_rfl⟩ ⟨by kernel_rfl, by kernel_rfl, by kernel_rfl⟩ ⟨by kernel_rfl, by kernel_rfl, by kernel_rfl⟩ ⟨by kernel_rfl, by kernel_rfl, by kernel_rfl⟩ ⟨by kernel_rfl, by kernel_rfl, by kernel_rfl⟩ ⟨by kernel_rfl, by kernel_rfl, by kernel_rfl⟩ ⟨by kernel_rfl, by kernel_rfl, by kernel_rfl⟩ (by rw [show (tiAt 72).size = 3 by kernel_rfl]; exact h1) (by rw [show (tiAt 72).bytes = 32 by kernel_rfl]; exact h2))
theorem ins118 : InsFn Try.prog 118 24 3 4 72 134 Try.f118 (fun k => k) (opAt Try.f118 noOp) (insTail (opAt Try.f118 noOp)) := by
  refine ⟨Try.func118, by kernel_rfl, by kernel_rfl, by kernel_rfl, by kernel_rfl, ?_, mix_ok, by kernel_rfl⟩
  constructor <;> first | exact ⟨by kernel_rfl, by kernel_rfl, by kernel_rfl⟩ | kernel_rfl
theorem ov118 : ∀ args w, (callFunc 134 args).run Try.prog w = ((Extern.SlicesOverlaps.overlaps #[24, 24] #[4] args).run Try.prog w).andThen fun v w' => .ok (.value v) w' := fun args w => run_callFunc_extern Try.func134 (by kernel_rfl) (by kernel_rfl) (by kernel_rfl) (e := Extern.SlicesOverlaps.overlaps #[24, 24] #[4]) (by kernel_rfl) args w
theorem hand118 {g : Nat → List MV → Option MV} (h : SoundG Try.prog cx g) : SoundG Try.prog cx (addG 118 (insertF 32) g) := h.add1 (fun _ => rfl) (fun ms r hr => by
  obtain ⟨xs, ys, i, rfl, rfl, h1, h2, h3⟩ := insertF_some hr
  exact insert_ok (P := Try.prog) (c := cx) (I := tiAt 24) (E := tiAt 72) ins118 tab_ok tv24 (by kernel_rfl) tv72 (Nat.le_of_ble_eq_true (by kernel_rfl)) (by kernel_rfl) (by kernel_rfl) (by kernel_rfl) (by kernel_rfl) ov118 h1 h2 (by rw [show (tiAt 72).bytes = 32 by kernel_rfl]; exact h3))
noncomputable def H117 : Nat → List MV → Option MV := addG 117 (cloneF 3 32) (fun _ _ => none)
theorem soundH117 : SoundG Try.prog cx H117 := hand117 (SoundG.none _ _)
noncomputable def H118 : Nat → List MV → Option MV := addG 118 (insertF 32) H117
theorem soundH118 : SoundG Try.prog cx H118 := hand118 soundH117
theorem fnS {g : Nat → List MV → Option MV} (s : SoundG Try.prog cx g) (caps : List (List Kd)) (par : List (Nat × Nat)) (tn : Nat) (bs fl : List Nat) (fz ord : List (Nat × List Nat)) (reg cnd lop : List (Nat × Hint)) (dyn : List Nat) {n : Nat} {fn : Func} {F : List MV → Option MV} (hf : Try.prog.funcs[n]? = some fn)
    (hh : headB (mkC g par tn bs fl fz ord reg cnd lop dyn) n fn caps = true) (hF : ∀ {ms r}, F ms = some r → bodyK (mkC g par tn bs fl fz ord reg cnd lop dyn) caps none fn ms = some r) : SoundG Try.prog cx (addG n F g) :=
  s.fn (c' := mkC g par tn bs fl fz ord reg cnd lop dyn) ⟨rfl, rfl, rfl, rfl, rfl, rfl, rfl, rfl, rfl⟩ rfl tab_ok eq_ok fk_ok mt_ok mix_ok dels_ok hf hh (fun _ => rfl) (fresh := none) rfl hF
theorem fnP {g : Nat → List MV → Option MV} (s : SoundG Try.prog cx g) (caps : List (List Kd)) (tn : Nat) (reg cnd lop : List (Nat × Hint)) {n : Nat} {fn : Func} {F : List MV → Option MV} (hf : Try.prog.funcs[n]? = some fn)
    (hh : headB (mkC g [] tn [] [] [] [] reg cnd lop []) n fn caps = true) (hF : ∀ {ms r}, F ms = some r → bodyK (mkC g [] tn [] [] [] [] reg cnd lop []) caps none fn ms = some r) : SoundG Try.prog cx (addG n F g) := fnS s caps [] tn [] [] [] [] reg cnd lop [] hf hh hF
theorem fnX {g : Nat → List MV → Option MV} (s : SoundG Try.prog cx g) (caps : List (List Kd)) (par : List (Nat × Nat)) (tn : Nat) (bs fl : List Nat) (fz ord : List (Nat × List Nat)) (reg cnd lop : List (Nat × Hint)) (dyn : List Nat) {n : Nat} {fn : Func} {F : List MV → Option MV} (hf : Try.prog.funcs[n]? = some fn)
    (hh : headB (mkC g par tn bs fl fz ord reg cnd lop dyn) n fn caps = true) (hF : ∀ {ms r}, F ms = some r → bodyX (mkC g par tn bs fl fz ord reg cnd lop dyn) caps none fn ms = some r) : SoundG Try.prog cx (addG n F g) :=
  s.fnX (c' := mkC g par tn bs fl fz ord reg cnd lop dyn) ⟨rfl, rfl, rfl, rfl, rfl, rfl, rfl, rfl, rfl⟩ rfl tab_ok eq_ok fk_ok mt_ok mix_ok dels_ok hf hh (fun _ => rfl) (fresh := none) rfl hF
noncomputable def dL21Votes (lA : MV) : Option MV :=
 gL lA fun lA1 =>
 bd (Loop (fun msA =>
 gC msA fun m msA1 =>
 gI .i64 m fun i =>
 gN msA1 <|
 lenN lA1 fun len =>
 ifB (decide (i < (len : Int))) (
 bd (
 ifB (decide (i = 40)) (
 some [.b true]) (
 idx lA1 i fun y =>
 gA y fun cs =>
 oIIS .i64 .i64 cs fun By View Value =>
 some [.b (decide ((6100 : Int) < (Value.length : Int)))])) fun vs =>
 gC vs fun m4 msA5 =>
 gB m4 fun x =>
 gN msA5 <|
 ifB x (
 some (.inr (1, [.b false]))) (
 some (.inl [.i .i64 (IntKind.wrap .i64 (i + 1))]))) (
 some (.inr (2, [])))) [.i .i64 0]) fun p =>
 ifB (Nat.beq p.1 2) (
 gN p.2 <|
 some (.b true)) (
 chk (Nat.beq p.1 1) <|
 gC p.2 fun m5 msA6 =>
 gB m5 fun x1 =>
 gN msA6 <|
 some (.b x1))
noncomputable def gL21Votes : Nat → List MV → Option MV := addG 60 (lst1 dL21Votes) H118
theorem soundL21Votes : SoundG Try.prog cx gL21Votes := fnP soundH118 [] 21 [(4, ⟨[0, 3], [], [], [(0, [(20, .sc (.k .b))])], []⟩)] [] [(2, ⟨[0], [], [(3, .sc (.k (.i .i64)))], [(1, [(2, .sc (.k .b))]), (2, [])], []⟩)] Try.func60 (by kernel_rfl) (lst1_of (fun _ => by kernel_rfl))
noncomputable def dL21Few (a : MV) : Option MV :=
 gA a fun cs =>
 oIIIIBISLL .i64 .i64 .i64 .i64 .i64 cs fun SF ST Me View Has At Value Proof VotesL =>
 bd (
 ifB (decide ((Value.length : Int) ≤ 6100)) (
 bd (dL21Votes (.list Proof)) fun rA =>
 gB rA fun x =>
 ifB x (
 bd (dL21Votes (.list VotesL)) fun rA1 =>
 gB rA1 fun x1 =>
 some [.b x1]) (
 some [.b false])) (
 some [.b false])) fun vs =>
 gC vs fun m9 msA9 =>
 gB m9 fun x2 =>
 gN msA9 <|
 some (.b x2)
noncomputable def gL21Few : Nat → List MV → Option MV := addG 11 (lst1 dL21Few) gL21Votes
theorem soundL21Few : SoundG Try.prog cx gL21Few := fnP soundL21Votes [] 18 [(1, ⟨[1], [], [], [(0, [(2, .sc (.k .b))])], []⟩)] [] [] Try.func11 (by kernel_rfl) (lst1_of (fun _ => by kernel_rfl))
noncomputable def dSizeSizePair (sA : MV) : Option MV :=
 gA sA fun cs =>
 oII .i64 .i64 cs fun F T =>
 some (.raw (.complex .f64 (FloatKind.nearest .f64 F) (FloatKind.nearest .f64 T)))
noncomputable def gSizeSizePair : Nat → List MV → Option MV := addG 111 (lst1 dSizeSizePair) gL21Few
theorem soundSizeSizePair : SoundG Try.prog cx gSizeSizePair := fnP soundL21Few [] 10 [] [] [] Try.func111 (by kernel_rfl) (lst1_of (fun _ => by kernel_rfl))
noncomputable def dSizeSizeOf (sA times : MV) : Option MV :=
 gA sA fun cs =>
 oII .i64 .i64 cs fun F T =>
 gR times fun times1 =>
 bd (dSizeSizePair (.agg [.i .i64 F, .i .i64 T])) fun rA =>
 gR rA fun x =>
 gCx x fun re im =>
 gCx times1 fun re1 im1 =>
 bd (FloatKind.f64.format.mul re re1) fun f =>
 gCx x fun re2 im2 =>
 gCx times1 fun re3 im3 =>
 bd (FloatKind.f64.format.mul im2 im3) fun f1 =>
 bd (FloatKind.f64.format.add f f1) fun f2 =>
 bd ((FloatKind.decode .f64 f2).toInt .zero) fun n =>
 chk (decide (IntKind.min .i64 ≤ n ∧ n ≤ IntKind.max .i64)) <|
 some (.i .i64 (IntKind.wrap .i64 (n + 1)))
noncomputable def gSizeSizeOf : Nat → List MV → Option MV := addG 91 (lst2 dSizeSizeOf) gSizeSizePair
theorem soundSizeSizeOf : SoundG Try.prog cx gSizeSizeOf := fnP soundSizeSizePair [] 21 [] [] [] Try.func91 (by kernel_rfl) (lst2_of (fun _ _ => by kernel_rfl))
noncomputable def dSizeN (sA : MV) : Option MV :=
 gA sA fun cs =>
 oII .i64 .i64 cs fun F T =>
 bd (dSizeSizeOf (.agg [.i .i64 F, .i .i64 T]) (.raw (.complex .f64 4613937818241073152 4611686018427387904))) fun rA =>
 gI .i64 rA fun x =>
 some (.i .i64 x)
noncomputable def gSizeN : Nat → List MV → Option MV := addG 45 (lst1 dSizeN) gSizeSizeOf
theorem soundSizeN : SoundG Try.prog cx gSizeN := fnP soundSizeSizeOf [] 5 [] [] [] Try.func45 (by kernel_rfl) (lst1_of (fun _ => by kernel_rfl))
noncomputable def dSizeRight (sA : MV) : Option MV :=
 gA sA fun cs =>
 oII .i64 .i64 cs fun F T =>
 bd (
 ifB (decide ((1 : Int) ≤ F)) (
 ifB (decide (F ≤ 5)) (
 ifB (decide ((0 : Int) ≤ T)) (
 some [.b (decide (T ≤ F))]) (
 some [.b false])) (
 some [.b false])) (
 some [.b false])) fun vs =>
 gC vs fun m2 msA2 =>
 gB m2 fun x =>
 gN msA2 <|
 some (.b x)
noncomputable def gSizeRight : Nat → List MV → Option MV := addG 61 (lst1 dSizeRight) gSizeN
theorem soundSizeRight : SoundG Try.prog cx gSizeRight := fnP soundSizeN [] 23 [(1, ⟨[1], [], [], [(0, [(2, .sc (.k .b))])], []⟩)] [] [] Try.func61 (by kernel_rfl) (lst1_of (fun _ => by kernel_rfl))
noncomputable def dAcceptorNew (sA me : MV) : Option MV :=
 gA sA fun cs =>
 oII .i64 .i64 cs fun F T =>
 gI .i64 me fun me1 =>
 bd (
 bd (dSizeRight (.agg [.i .i64 F, .i .i64 T])) fun rA =>
 gB rA fun x =>
 ifB (!x) (
 some [.b true]) (
 ifB (decide (me1 < 0)) (
 some [.b true]) (
 bd (dSizeN (.agg [.i .i64 F, .i .i64 T])) fun rA1 =>
 gI .i64 rA1 fun x1 =>
 some [.b (decide (x1 ≤ me1))]))) fun vs =>
 gC vs fun m2 msA2 =>
 gB m2 fun x2 =>
 gN msA2 <|
 ifB x2 (
 some (.tup [.agg (uIIIIBISLL 0 0 0 0 false 0 ([] : List UInt8) ([] : List MV) ([] : List MV)), .i .i64 1])) (
 some (.tup [.agg (uIIIIBISLL F T me1 0 false 0 ([] : List UInt8) ([] : List MV) ([] : List MV)), .i .i64 0]))
noncomputable def gAcceptorNew : Nat → List MV → Option MV := addG 13 (lst2 dAcceptorNew) gSizeRight
theorem soundAcceptorNew : SoundG Try.prog cx gAcceptorNew := fnP soundSizeRight [] 23 [(1, ⟨[1, 2, 4], [], [], [(0, [(18, .sc (.k .b))])], []⟩)] [] [] Try.func13 (by kernel_rfl) (lst2_of (fun _ _ => by kernel_rfl))
noncomputable def dAcceptorTell (a : MV) : Option MV :=
 gA a fun cs =>
 oIIIIBISLL .i64 .i64 .i64 .i64 .i64 cs fun SF ST Me View Has At Value Proof VotesL =>
 some (.agg (uIIBISL Me View Has At Value Proof))
noncomputable def gAcceptorTell : Nat → List MV → Option MV := addG 22 (lst1 dAcceptorTell) gAcceptorNew
theorem soundAcceptorTell : SoundG Try.prog cx gAcceptorTell := fnP soundAcceptorNew [] 16 [] [] [] Try.func22 (by kernel_rfl) (lst1_of (fun _ => by kernel_rfl))
noncomputable def dAcceptorEnter (a view : MV) : Option MV :=
 gA a fun cs =>
 oIIIIBISLL .i64 .i64 .i64 .i64 .i64 cs fun SF ST Me View Has At Value Proof VotesL =>
 gI .i64 view fun view1 =>
 bd (
 ifB (decide (view1 ≤ View)) (
 some [.b true]) (
 some [.b (decide ((100000 : Int) < view1))])) fun vs =>
 gC vs fun m9 msA9 =>
 gB m9 fun x =>
 gN msA9 <|
 ifB x (
 some (.tup [.agg (uIIIIBISLL SF ST Me View Has At Value Proof VotesL), .agg (uIIBISL 0 0 false 0 ([] : List UInt8) ([] : List MV)), .b false])) (
 bd (dAcceptorTell (.agg (uIIIIBISLL SF ST Me view1 Has At Value Proof ([] : List MV)))) fun rA =>
 gA rA fun cs1 =>
 oIIBISL .i64 .i64 .i64 cs1 fun By For Has1 View1 Value1 Proof1 =>
 some (.tup [.agg (uIIIIBISLL SF ST Me view1 Has At Value Proof ([] : List MV)), .agg (uIIBISL By For Has1 View1 Value1 Proof1), .b true]))
noncomputable def gAcceptorEnter : Nat → List MV → Option MV := addG 52 (lst2 dAcceptorEnter) gAcceptorTell
theorem soundAcceptorEnter : SoundG Try.prog cx gAcceptorEnter := fnS soundAcceptorTell [] [] 24 [] [] [] [(4, [0, 1, 2, 3, 4, 5])] [(1, ⟨[1, 2, 4, 5], [], [], [(0, [(14, .sc (.k .b))])], []⟩)] [] [] [] Try.func52 (by kernel_rfl) (lst2_of (fun _ _ => by kernel_rfl))
noncomputable def dSizeMost (sA : MV) : Option MV :=
 gA sA fun cs =>
 oII .i64 .i64 cs fun F T =>
 bd (dSizeSizeOf (.agg [.i .i64 F, .i .i64 T]) (.raw (.complex .f64 4611686018427387904 4611686018427387904))) fun rA =>
 gI .i64 rA fun x =>
 some (.i .i64 x)
noncomputable def gSizeMost : Nat → List MV → Option MV := addG 129 (lst1 dSizeMost) gAcceptorEnter
theorem soundSizeMost : SoundG Try.prog cx gSizeMost := fnP soundAcceptorEnter [] 5 [] [] [] Try.func129 (by kernel_rfl) (lst1_of (fun _ => by kernel_rfl))
noncomputable def dSizeProof (sA : MV) : Option MV :=
 gA sA fun cs =>
 oII .i64 .i64 cs fun F T =>
 bd (dSizeSizeOf (.agg [.i .i64 F, .i .i64 T]) (.raw (.complex .f64 4611686018427387904 4607182418800017408))) fun rA =>
 gI .i64 rA fun x =>
 some (.i .i64 x)
noncomputable def gSizeProof : Nat → List MV → Option MV := addG 46 (lst1 dSizeProof) gSizeMost
theorem soundSizeProof : SoundG Try.prog cx gSizeProof := fnP soundSizeMost [] 5 [] [] [] Try.func46 (by kernel_rfl) (lst1_of (fun _ => by kernel_rfl))
noncomputable def dTallyMay (a : MV) : Option MV :=
 gA a fun cs =>
 oIIS .i64 .i64 cs fun By View Value =>
 bd (
 ifB (decide ((0 : Int) ≤ By)) (
 ifB (decide ((0 : Int) ≤ View)) (
 ifB (decide (View ≤ 100000)) (
 some [.b (decide ((Value.length : Int) ≤ 6000))]) (
 some [.b false])) (
 some [.b false])) (
 some [.b false])) fun vs =>
 gC vs fun m3 msA3 =>
 gB m3 fun x =>
 gN msA3 <|
 some (.b x)
noncomputable def gTallyMay : Nat → List MV → Option MV := addG 96 (lst1 dTallyMay) gSizeProof
theorem soundTallyMay : SoundG Try.prog cx gTallyMay := fnP soundSizeProof [] 22 [(1, ⟨[1], [], [], [(0, [(2, .sc (.k .b))])], []⟩)] [] [] Try.func96 (by kernel_rfl) (lst1_of (fun _ => by kernel_rfl))
noncomputable def dTallyRight (t : MV) : Option MV :=
 gA t fun cs =>
 gC cs fun m msA =>
 gL m fun L =>
 gN msA <|
 lenN L fun len =>
 bd (Loop (fun msA1 =>
 gC msA1 fun m1 msA2 =>
 gI .i64 m1 fun x =>
 gN msA2 <|
 ifB (decide (x < (len : Int))) (
 idx L x fun y =>
 gA y fun cs1 =>
 oIIS .i64 .i64 cs1 fun By View Value =>
 bd (
 bd (dTallyMay (.agg [.i .i64 By, .i .i64 View, .s Value])) fun rA =>
 gB rA fun x1 =>
 ifB (!x1) (
 some [.b true]) (
 ifB (decide ((0 : Int) < x)) (
 idx L (IntKind.wrap .i64 (x - 1)) fun y1 =>
 gA y1 fun cs2 =>
 oIIS .i64 .i64 cs2 fun By1 View1 Value1 =>
 some [.b (decide (By ≤ By1))]) (
 some [.b false]))) fun vs =>
 gC vs fun m8 msA9 =>
 gB m8 fun x2 =>
 gN msA9 <|
 ifB x2 (
 some (.inr (1, [.b false]))) (
 some (.inl [.i .i64 (IntKind.wrap .i64 (x + 1))]))) (
 some (.inr (2, [])))) [.i .i64 0]) fun p =>
 ifB (Nat.beq p.1 2) (
 gN p.2 <|
 some (.b true)) (
 chk (Nat.beq p.1 1) <|
 gC p.2 fun m9 msA10 =>
 gB m9 fun x3 =>
 gN msA10 <|
 some (.b x3))
noncomputable def gTallyRight : Nat → List MV → Option MV := addG 66 (lst1 dTallyRight) gTallyMay
theorem soundTallyRight : SoundG Try.prog cx gTallyRight := fnS soundTallyMay [] [] 33 [] [] [] [(4, [0, 1, 2, 3, 4, 5, 6, 7, 8, 9, 10, 11, 12, 13, 14, 15, 16, 17, 18])] [(4, ⟨[1, 3, 4, 6, 7, 8], [], [], [(0, [(31, .sc (.k .b))])], []⟩)] [] [(2, ⟨[1, 6, 7], [], [(8, .sc (.k (.i .i64)))], [(1, [(2, .sc (.k .b))]), (2, [])], []⟩)] [] Try.func66 (by kernel_rfl) (lst1_of (fun _ => by kernel_rfl))
noncomputable def dTallyVoters (t view value : MV) : Option MV :=
 gA t fun cs =>
 gC cs fun m msA =>
 gL m fun L =>
 gN msA <|
 gI .i64 view fun view1 =>
 gS value fun value1 =>
 lenN L fun len =>
 bd (Loop (fun msA1 =>
 gC msA1 fun m1 msA2 =>
 gL m1 fun out =>
 gC msA2 fun m2 msA3 =>
 gI .i64 m2 fun x =>
 gN msA3 <|
 ifB (decide (x < (len : Int))) (
 idx L x fun y =>
 gA y fun cs1 =>
 oIIS .i64 .i64 cs1 fun By View Value =>
 bd (
 ifB (decide (View = view1)) (
 some [.b (decide (Value = value1))]) (
 some [.b false])) fun vs =>
 gC vs fun m6 msA7 =>
 gB m6 fun x1 =>
 gN msA7 <|
 bd (
 ifB x1 (
 lenN out fun len1 =>
 lenN ([.agg [.i .i64 By, .i .i64 View, .s Value]] : List MV) fun len2 =>
 chk (decide ((len1 + len2) * 32 ≤ 2 ^ 46)) <|
 some (0, [.list (out ++ ([.agg [.i .i64 By, .i .i64 View, .s Value]] : List MV))])) (
 some (0, [.list out]))) fun p1 =>
 chk (Nat.beq p1.1 0) <|
 gC p1.2 fun m7 msA8 =>
 gL m7 fun out1 =>
 gN msA8 <|
 some (.inl [.list out1, .i .i64 (IntKind.wrap .i64 (x + 1))])) (
 some (.inr (2, [.list out])))) [.list ([] : List MV), .i .i64 0]) fun p =>
 chk (Nat.beq p.1 2) <|
 gC p.2 fun m8 msA9 =>
 gL m8 fun out2 =>
 gN msA9 <|
 some (.list out2)
noncomputable def gTallyVoters : Nat → List MV → Option MV := addG 119 (lst3 dTallyVoters) gTallyRight
theorem soundTallyVoters : SoundG Try.prog cx gTallyVoters := fnS soundTallyRight [] [] 33 [29] [] [] [] [(5, ⟨[1, 2, 7, 9, 11, 12, 13], [30], [], [(0, [(26, .sc (.k .b))])], [30]⟩)] [(6, ⟨[1, 2, 9, 11, 12, 13], [], [], [(0, [(7, .sc (.own 30 72 true))])], [30]⟩)] [(3, ⟨[1, 2, 11, 12], [], [(7, .sc (.own 30 72 true)), (13, .sc (.k (.i .i64)))], [(2, [(7, .sc (.own 30 72 true))])], [30]⟩)] [] Try.func119 (by kernel_rfl) (lst3_of (fun _ _ _ => by kernel_rfl))
noncomputable def dTallyCount (t view value : MV) : Option MV :=
 gA t fun cs =>
 gC cs fun m msA =>
 gL m fun L =>
 gN msA <|
 gI .i64 view fun view1 =>
 gS value fun value1 =>
 bd (dTallyVoters (.agg [.list L]) (.i .i64 view1) (.s value1)) fun rA =>
 gL rA fun x =>
 lenN x fun len =>
 some (.i .i64 (len : Int))
noncomputable def gTallyCount : Nat → List MV → Option MV := addG 110 (lst3 dTallyCount) gTallyVoters
theorem soundTallyCount : SoundG Try.prog cx gTallyCount := fnP soundTallyVoters [] 12 [] [] [] Try.func110 (by kernel_rfl) (lst3_of (fun _ _ _ => by kernel_rfl))
noncomputable def dProofRight (sA p : MV) : Option MV :=
 gA sA fun cs =>
 oII .i64 .i64 cs fun F T =>
 gL p fun p1 =>
 bd (
 bd (dSizeRight (.agg [.i .i64 F, .i .i64 T])) fun rA =>
 gB rA fun x =>
 ifB (!x) (
 some [.b true]) (
 lenN p1 fun len =>
 bd (dSizeProof (.agg [.i .i64 F, .i .i64 T])) fun rA1 =>
 gI .i64 rA1 fun x1 =>
 ifB (!decide ((len : Int) = x1)) (
 some [.b true]) (
 bd (dTallyRight (.agg [.list p1])) fun rA2 =>
 gB rA2 fun x2 =>
 some [.b (!x2)]))) fun vs =>
 gC vs fun m2 msA2 =>
 gB m2 fun x3 =>
 gN msA2 <|
 ifB x3 (
 some (.b false)) (
 bd (
 lenN p1 fun len1 =>
 idx p1 (IntKind.wrap .i64 ((len1 : Int) - 1)) fun y =>
 gA y fun cs1 =>
 oIIS .i64 .i64 cs1 fun By View Value =>
 bd (dSizeN (.agg [.i .i64 F, .i .i64 T])) fun rA3 =>
 gI .i64 rA3 fun x4 =>
 ifB (decide (By < x4)) (
 idx p1 0 fun y1 =>
 gA y1 fun cs2 =>
 oIIS .i64 .i64 cs2 fun By1 View1 Value1 =>
 idx p1 0 fun y2 =>
 gA y2 fun cs3 =>
 oIIS .i64 .i64 cs3 fun By2 View2 Value2 =>
 lenN p1 fun len2 =>
 bd (dTallyCount (.agg [.list p1]) (.i .i64 View1) (.s Value2)) fun rA4 =>
 gI .i64 rA4 fun x5 =>
 some [.b (decide (x5 = (len2 : Int)))]) (
 some [.b false])) fun vs1 =>
 gC vs1 fun m12 msA12 =>
 gB m12 fun x6 =>
 gN msA12 <|
 some (.b x6))
noncomputable def gProofRight : Nat → List MV → Option MV := addG 88 (lst2 dProofRight) gTallyCount
theorem soundProofRight : SoundG Try.prog cx gProofRight := fnS soundTallyCount [] [] 47 [] [] [] [(3, [0, 1, 2, 3, 4, 5, 6, 7, 8, 9, 10, 11, 12, 13, 14, 15, 16, 17, 18, 19, 20, 22, 23, 21, 24, 25, 26])] [(3, ⟨[1, 2], [], [], [(0, [(4, .sc (.k .b))])], []⟩), (1, ⟨[1, 2], [], [], [(0, [(20, .sc (.k .b))])], []⟩)] [] [] [] Try.func88 (by kernel_rfl) (lst2_of (fun _ _ => by kernel_rfl))
noncomputable def dProofOf (p : MV) : Option MV :=
 gL p fun p1 =>
 lenN p1 fun len =>
 ifB (decide ((len : Int) = 0)) (
 some (.tup [.i .i64 (-1), .s ([] : List UInt8), .b false])) (
 idx p1 0 fun y =>
 gA y fun cs =>
 oIIS .i64 .i64 cs fun By View Value =>
 idx p1 0 fun y1 =>
 gA y1 fun cs1 =>
 oIIS .i64 .i64 cs1 fun By1 View1 Value1 =>
 some (.tup [.i .i64 View, .s Value1, .b true]))
noncomputable def gProofOf : Nat → List MV → Option MV := addG 80 (lst1 dProofOf) gProofRight
theorem soundProofOf : SoundG Try.prog cx gProofOf := fnS soundProofRight [] [] 16 [] [] [] [(3, [0, 1, 2, 3, 4, 5, 6, 7, 8, 9, 10])] [] [] [] [] Try.func80 (by kernel_rfl) (lst1_of (fun _ => by kernel_rfl))
noncomputable def dReportProved (rA : MV) : Option MV :=
 gA rA fun cs =>
 oIIBISL .i64 .i64 .i64 cs fun By For Has View Value Proof =>
 bd (dProofOf (.list Proof)) fun rA1 =>
 gT rA1 fun vs =>
 oISB .i64 vs fun x x1 x2 =>
 ifB (!x2) (
 some (.i .i64 (-1))) (
 some (.i .i64 x))
noncomputable def gReportProved : Nat → List MV → Option MV := addG 131 (lst1 dReportProved) gProofOf
theorem soundReportProved : SoundG Try.prog cx gReportProved := fnP soundProofOf [] 16 [] [] [] Try.func131 (by kernel_rfl) (lst1_of (fun _ => by kernel_rfl))
noncomputable def dReportMay (a a1 : MV) : Option MV :=
 gA a fun cs =>
 oII .i64 .i64 cs fun F T =>
 gA a1 fun cs1 =>
 oIIBISL .i64 .i64 .i64 cs1 fun By For Has View Value Proof =>
 bd (
 bd (dSizeRight (.agg [.i .i64 F, .i .i64 T])) fun rA =>
 gB rA fun x =>
 ifB (!x) (
 some [.b true]) (
 ifB (decide (By < 0)) (
 some [.b true]) (
 bd (dSizeN (.agg [.i .i64 F, .i .i64 T])) fun rA1 =>
 gI .i64 rA1 fun x1 =>
 ifB (decide (x1 ≤ By)) (
 some [.b true]) (
 ifB (decide (For < 1)) (
 some [.b true]) (
 some [.b (decide ((100000 : Int) < For))]))))) fun vs =>
 gC vs fun m8 msA8 =>
 gB m8 fun x2 =>
 gN msA8 <|
 ifB x2 (
 some (.b false)) (
 bd (
 ifB (!Has) (
 ifB (!decide (View = 0)) (
 some [.b true]) (
 some [.b (!decide (Value = ([] : List UInt8)))])) (
 some [.b false])) fun vs1 =>
 gC vs1 fun m9 msA9 =>
 gB m9 fun x3 =>
 gN msA9 <|
 ifB x3 (
 some (.b false)) (
 bd (
 ifB Has (
 ifB (decide (View < 0)) (
 some [.b true]) (
 ifB (decide (For ≤ View)) (
 some [.b true]) (
 some [.b (decide ((6000 : Int) < (Value.length : Int)))]))) (
 some [.b false])) fun vs2 =>
 gC vs2 fun m10 msA10 =>
 gB m10 fun x4 =>
 gN msA10 <|
 ifB x4 (
 some (.b false)) (
 bd (
 lenN Proof fun len =>
 ifB (decide ((len : Int) = 0)) (
 some [.b true]) (
 bd (dProofRight (.agg [.i .i64 F, .i .i64 T]) (.list Proof)) fun rA2 =>
 gB rA2 fun x5 =>
 ifB x5 (
 bd (dReportProved (.agg (uIIBISL By For Has View Value Proof))) fun rA3 =>
 gI .i64 rA3 fun x6 =>
 some [.b (decide (x6 < For))]) (
 some [.b false]))) fun vs3 =>
 gC vs3 fun m11 msA11 =>
 gB m11 fun x7 =>
 gN msA11 <|
 some (.b x7))))
noncomputable def gReportMay : Nat → List MV → Option MV := addG 130 (lst2 dReportMay) gReportProved
theorem soundReportMay : SoundG Try.prog cx gReportMay := fnS soundReportProved [] [] 83 [] [] [] [(1, [0, 1, 2, 3, 4, 5, 6, 7, 8, 9, 10, 11, 12, 13, 14, 15, 16, 17, 18, 19, 20, 21, 22, 23, 24, 25]), (7, [0, 1, 2, 3, 4, 5, 6, 7, 8, 9, 10, 12, 13, 11, 14, 15, 16, 17])] [(7, ⟨[2, 3], [], [], [(0, [(4, .sc (.k .b))])], []⟩), (5, ⟨[2, 3], [], [], [(0, [(45, .sc (.k .b))])], []⟩), (3, ⟨[2, 3], [], [], [(0, [(31, .sc (.k .b))])], []⟩), (1, ⟨[2, 3], [], [], [(0, [(5, .sc (.k .b))])], []⟩)] [] [] [] Try.func130 (by kernel_rfl) (lst2_of (fun _ _ => by kernel_rfl))
noncomputable def dReportRight (sA view lA : MV) : Option MV :=
 gA sA fun cs =>
 oII .i64 .i64 cs fun F T =>
 gI .i64 view fun view1 =>
 gL lA fun lA1 =>
 bd (
 bd (dSizeRight (.agg [.i .i64 F, .i .i64 T])) fun rA =>
 gB rA fun x =>
 ifB (!x) (
 some [.b true]) (
 lenN lA1 fun len =>
 bd (dSizeMost (.agg [.i .i64 F, .i .i64 T])) fun rA1 =>
 gI .i64 rA1 fun x1 =>
 some [.b (!decide ((len : Int) = x1))])) fun vs =>
 gC vs fun m2 msA2 =>
 gB m2 fun x2 =>
 gN msA2 <|
 ifB x2 (
 some (.b false)) (
 lenN lA1 fun len1 =>
 bd (Loop (fun msA3 =>
 oII .i64 .i64 msA3 fun last x3 =>
 ifB (decide (x3 < (len1 : Int))) (
 idx lA1 x3 fun y =>
 gA y fun cs1 =>
 oIIBISL .i64 .i64 .i64 cs1 fun By For Has View Value Proof =>
 bd (
 bd (dReportMay (.agg [.i .i64 F, .i .i64 T]) (.agg (uIIBISL By For Has View Value Proof))) fun rA2 =>
 gB rA2 fun x4 =>
 ifB (!x4) (
 some [.b true]) (
 ifB (!decide (For = view1)) (
 some [.b true]) (
 some [.b (decide (By ≤ last))]))) fun vs1 =>
 gC vs1 fun m11 msA12 =>
 gB m11 fun x5 =>
 gN msA12 <|
 ifB x5 (
 some (.inr (1, [.b false]))) (
 some (.inl [.i .i64 By, .i .i64 (IntKind.wrap .i64 (x3 + 1))]))) (
 some (.inr (2, [])))) [.i .i64 (-1), .i .i64 0]) fun p =>
 ifB (Nat.beq p.1 2) (
 gN p.2 <|
 some (.b true)) (
 chk (Nat.beq p.1 1) <|
 gC p.2 fun m12 msA13 =>
 gB m12 fun x6 =>
 gN msA13 <|
 some (.b x6)))
noncomputable def gReportRight : Nat → List MV → Option MV := addG 112 (lst3 dReportRight) gReportMay
theorem soundReportRight : SoundG Try.prog cx gReportRight := fnP soundReportMay [] 45 [(7, ⟨[1, 3, 7, 9, 20, 21, 22], [], [], [(0, [(41, .sc (.k .b))])], []⟩), (1, ⟨[1, 2, 3], [], [], [(0, [(19, .sc (.k .b))])], []⟩)] [] [(5, ⟨[1, 3, 20, 21], [], [(7, .sc (.k (.i .i64))), (22, .sc (.k (.i .i64)))], [(1, [(6, .sc (.k .b))]), (2, [])], []⟩)] Try.func112 (by kernel_rfl) (lst3_of (fun _ _ _ => by kernel_rfl))
noncomputable def dSizeVouch (sA : MV) : Option MV :=
 gA sA fun cs =>
 oII .i64 .i64 cs fun F T =>
 bd (dSizeSizeOf (.agg [.i .i64 F, .i .i64 T]) (.raw (.complex .f64 4607182418800017408 4607182418800017408))) fun rA =>
 gI .i64 rA fun x =>
 some (.i .i64 x)
noncomputable def gSizeVouch : Nat → List MV → Option MV := addG 132 (lst1 dSizeVouch) gReportRight
theorem soundSizeVouch : SoundG Try.prog cx gSizeVouch := fnP soundReportRight [] 5 [] [] [] Try.func132 (by kernel_rfl) (lst1_of (fun _ => by kernel_rfl))
noncomputable def dReportBinds (a a1 : MV) : Option MV :=
 gA a fun cs =>
 oII .i64 .i64 cs fun F T =>
 gL a1 fun a1N1 =>
 lenN a1N1 fun len =>
 bd (Loop (fun msA2 =>
 gC msA2 fun m2 msA3 =>
 gI .i64 m2 fun x =>
 gC msA3 fun m3 msA4 =>
 gS m3 fun x1 =>
 gC msA4 fun m4 msA5 =>
 gI .i64 m4 fun x2 =>
 gN msA5 <|
 ifB (decide (x2 < (len : Int))) (
 idx a1N1 x2 fun y =>
 gA y fun cs1 =>
 oIIBISL .i64 .i64 .i64 cs1 fun By For Has View Value Proof =>
 bd (dReportProved (.agg (uIIBISL By For Has View Value Proof))) fun rA =>
 gI .i64 rA fun x3 =>
 bd (
 ifB (decide (x < x3)) (
 idx Proof 0 fun y1 =>
 gA y1 fun cs2 =>
 oIIS .i64 .i64 cs2 fun By1 View1 Value1 =>
 some (0, [.i .i64 x3, .s Value1])) (
 some (0, [.i .i64 x, .s x1]))) fun p1 =>
 chk (Nat.beq p1.1 0) <|
 gC p1.2 fun m14 msA15 =>
 gI .i64 m14 fun x4 =>
 gC msA15 fun m15 msA16 =>
 gS m15 fun x5 =>
 gN msA16 <|
 some (.inl [.i .i64 x4, .s x5, .i .i64 (IntKind.wrap .i64 (x2 + 1))])) (
 some (.inr (2, [.i .i64 x, .s x1])))) [.i .i64 (-1), .s ([] : List UInt8), .i .i64 0]) fun p =>
 chk (Nat.beq p.1 2) <|
 gC p.2 fun m16 msA17 =>
 gI .i64 m16 fun x6 =>
 gC msA17 fun m17 msA18 =>
 gS m17 fun x7 =>
 gN msA18 <|
 lenN a1N1 fun len1 =>
 bd (Loop (fun msA19 =>
 gC msA19 fun m18 msA20 =>
 gL m18 fun es =>
 gC msA20 fun m19 msA21 =>
 gI .i64 m19 fun x8 =>
 gN msA21 <|
 ifB (decide (x8 < (len1 : Int))) (
 idx a1N1 x8 fun y2 =>
 gA y2 fun cs3 =>
 oIIBISL .i64 .i64 .i64 cs3 fun By2 For1 Has1 View2 Value2 Proof1 =>
 bd (
 ifB Has1 (
 some [.b (decide (x6 < View2))]) (
 some [.b false])) fun vs =>
 gC vs fun m26 msA28 =>
 gB m26 fun x9 =>
 gN msA28 <|
 bd (
 ifB x9 (
 some (0, [.list (mset (ment es ([.s Value2] : List MV) (.i .i64 0)) (midx es ([.s Value2] : List MV)) (.i .i64 (IntKind.wrap .i64 ((mgetI es ([.s Value2] : List MV)) + 1))))])) (
 some (0, [.list es]))) fun p3 =>
 chk (Nat.beq p3.1 0) <|
 gC p3.2 fun m27 msA29 =>
 gL m27 fun es1 =>
 gN msA29 <|
 some (.inl [.list es1, .i .i64 (IntKind.wrap .i64 (x8 + 1))])) (
 some (.inr (4, [.list es])))) [.list ([] : List MV), .i .i64 0]) fun p2 =>
 chk (Nat.beq p2.1 4) <|
 gC p2.2 fun m28 msA30 =>
 gL m28 fun es2 =>
 gN msA30 <|
 bd (RangeM (fun m29 => entT m29 fun key n =>
 bd (dSizeVouch (.agg [.i .i64 F, .i .i64 T])) fun rA1 =>
 gI .i64 rA1 fun x10 =>
 ifB (decide (x10 ≤ n)) (
 some (.inr (1, [.s key, .b true]))) (
 some (.inl ()))) (
 some (6, [])) es2) fun p4 =>
 ifB (Nat.beq p4.1 6) (
 gN p4.2 <|
 some (.tup [.s x7, .b (decide (((-1) : Int) < x6))])) (
 chk (Nat.beq p4.1 1) <|
 gC p4.2 fun m30 msA31 =>
 gS m30 fun x11 =>
 gC msA31 fun m31 msA32 =>
 gB m31 fun x12 =>
 gN msA32 <|
 some (.tup [.s x11, .b x12]))
noncomputable def gReportBinds : Nat → List MV → Option MV := addG 113 (lst2 dReportBinds) gSizeVouch
theorem soundReportBinds : SoundG Try.prog cx gReportBinds := fnX soundSizeVouch [] [] 70 [] [] [] [(7, [0, 1, 2, 3, 4, 5, 6, 7])] [(13, ⟨[2, 6, 7, 11, 13, 35, 36, 37], [], [], [(0, [(48, .sc (.k .b))])], []⟩)] [(14, ⟨[2, 6, 7, 13, 35, 36, 37], [], [], [(0, [(11, .mp ⟨false, [.s], false⟩)])], []⟩), (7, ⟨[1, 2, 9, 10, 16, 17, 18], [], [], [(0, [(6, .sc (.k (.i .i64))), (7, .sc (.k .s))])], []⟩)] [(17, ⟨[2, 6, 7, 11, 56], [], [], [(1, [(4, .sc (.k .s)), (5, .sc (.k .b))]), (6, [])], []⟩), (11, ⟨[2, 6, 7, 35, 36], [], [(11, .mp ⟨false, [.s], false⟩), (37, .sc (.k (.i .i64)))], [(4, [(11, .mp ⟨false, [.s], false⟩)])], []⟩), (3, ⟨[1, 2, 16, 17], [], [(6, .sc (.k (.i .i64))), (7, .sc (.k .s)), (18, .sc (.k (.i .i64)))], [(2, [(6, .sc (.k (.i .i64))), (7, .sc (.k .s))])], []⟩)] [] Try.func113 (by kernel_rfl) (lst2_of (fun _ _ => by kernel_rfl))
noncomputable def dReportVouches (sA view lA value : MV) : Option MV :=
 gA sA fun cs =>
 oII .i64 .i64 cs fun F T =>
 gI .i64 view fun view1 =>
 gL lA fun lA1 =>
 gS value fun value1 =>
 bd (dReportRight (.agg [.i .i64 F, .i .i64 T]) (.i .i64 view1) (.list lA1)) fun rA =>
 gB rA fun x =>
 ifB (!x) (
 some (.b false)) (
 bd (dReportBinds (.agg [.i .i64 F, .i .i64 T]) (.list lA1)) fun rA1 =>
 gT rA1 fun vs =>
 gC vs fun m2 msA2 =>
 gS m2 fun x1 =>
 gC msA2 fun m3 msA3 =>
 gB m3 fun x2 =>
 gN msA3 <|
 bd (
 ifB (!x2) (
 some [.b true]) (
 some [.b (decide (x1 = value1))])) fun vs1 =>
 gC vs1 fun m4 msA4 =>
 gB m4 fun x3 =>
 gN msA4 <|
 some (.b x3))
noncomputable def gReportVouches : Nat → List MV → Option MV := addG 93 (lst4 dReportVouches) gReportBinds
theorem soundReportVouches : SoundG Try.prog cx gReportVouches := fnP soundReportBinds [] 29 [(4, ⟨[3, 9, 10], [], [], [(0, [(8, .sc (.k .b))])], []⟩)] [] [] Try.func93 (by kernel_rfl) (lst4_of (fun _ _ _ _ => by kernel_rfl))
noncomputable def dAcceptorPropose (a view value cert : MV) : Option MV :=
 gA a fun cs =>
 oIIIIBISLL .i64 .i64 .i64 .i64 .i64 cs fun SF ST Me View Has At Value Proof VotesL =>
 gI .i64 view fun view1 =>
 gS value fun value1 =>
 gL cert fun cert1 =>
 bd (
 ifB (!decide (view1 = View)) (
 some [.b true]) (
 ifB Has (
 ifB (decide (At = view1)) (
 some [.b true]) (
 some [.b (decide ((6000 : Int) < (value1.length : Int)))])) (
 some [.b (decide ((6000 : Int) < (value1.length : Int)))]))) fun vs =>
 gC vs fun m9 msA9 =>
 gB m9 fun x =>
 gN msA9 <|
 ifB x (
 some (.tup [.agg (uIIIIBISLL SF ST Me View Has At Value Proof VotesL), .agg [.i .i64 0, .i .i64 0, .s ([] : List UInt8)], .b false])) (
 bd (
 ifB (decide (view1 = 0)) (
 lenN cert1 fun len =>
 some [.b (decide ((len : Int) = 0))]) (
 some [.b false])) fun vs1 =>
 gC vs1 fun m10 msA10 =>
 gB m10 fun x1 =>
 gN msA10 <|
 bd (
 ifB x1 (
 some (0, [.i .i64 0, .i .i64 0, .i .i64 0, .i .i64 0, .b false, .i .i64 0, .s ([] : List UInt8), .list ([] : List MV), .list ([] : List MV), .i .i64 0, .i .i64 0, .s ([] : List UInt8)])) (
 bd (dReportVouches (.agg [.i .i64 SF, .i .i64 ST]) (.i .i64 view1) (.list cert1) (.s value1)) fun rA =>
 gB rA fun x2 =>
 ifB (!x2) (
 some (1, [.i .i64 SF, .i .i64 ST, .i .i64 Me, .i .i64 View, .b Has, .i .i64 At, .s Value, .list Proof, .list VotesL, .i .i64 0, .i .i64 0, .s ([] : List UInt8), .b false])) (
 some (0, [.i .i64 0, .i .i64 0, .i .i64 0, .i .i64 0, .b false, .i .i64 0, .s ([] : List UInt8), .list ([] : List MV), .list ([] : List MV), .i .i64 0, .i .i64 0, .s ([] : List UInt8)])))) fun p =>
 ifB (Nat.beq p.1 1) (
 gC p.2 fun m11 msA11 =>
 gI .i64 m11 fun x3 =>
 gC msA11 fun m12 msA12 =>
 gI .i64 m12 fun x4 =>
 gC msA12 fun m13 msA13 =>
 gI .i64 m13 fun x5 =>
 gC msA13 fun m14 msA14 =>
 gI .i64 m14 fun x6 =>
 gC msA14 fun m15 msA15 =>
 gB m15 fun x7 =>
 gC msA15 fun m16 msA16 =>
 gI .i64 m16 fun x8 =>
 gC msA16 fun m17 msA17 =>
 gS m17 fun x9 =>
 gC msA17 fun m18 msA18 =>
 gL m18 fun x10 =>
 gC msA18 fun m19 msA19 =>
 gL m19 fun x11 =>
 gC msA19 fun m20 msA20 =>
 gI .i64 m20 fun x12 =>
 oISB .i64 msA20 fun x13 x14 x15 =>
 some (.tup [.agg (uIIIIBISLL x3 x4 x5 x6 x7 x8 x9 x10 x11), .agg [.i .i64 x12, .i .i64 x13, .s x14], .b x15])) (
 chk (Nat.beq p.1 0) <|
 gC p.2 fun m24 msA24 =>
 gI .i64 m24 fun x16 =>
 gC msA24 fun m25 msA25 =>
 gI .i64 m25 fun x17 =>
 gC msA25 fun m26 msA26 =>
 gI .i64 m26 fun x18 =>
 gC msA26 fun m27 msA27 =>
 gI .i64 m27 fun x19 =>
 gC msA27 fun m28 msA28 =>
 gB m28 fun x20 =>
 gC msA28 fun m29 msA29 =>
 gI .i64 m29 fun x21 =>
 gC msA29 fun m30 msA30 =>
 gS m30 fun x22 =>
 gC msA30 fun m31 msA31 =>
 gL m31 fun x23 =>
 gC msA31 fun m32 msA32 =>
 gL m32 fun x24 =>
 oIIS .i64 .i64 msA32 fun x25 x26 x27 =>
 some (.tup [.agg (uIIIIBISLL SF ST Me View true view1 value1 Proof VotesL), .agg [.i .i64 Me, .i .i64 view1, .s value1], .b true])))
noncomputable def gAcceptorPropose : Nat → List MV → Option MV := addG 54 (lst4 dAcceptorPropose) gReportVouches
theorem soundAcceptorPropose : SoundG Try.prog cx gAcceptorPropose := fnS soundReportVouches [] [] 62 [] [58] [(7, [4])] [(7, [0, 1, 2, 3, 4, 5, 6, 7, 8])] [(3, ⟨[1, 2, 3, 4, 8, 9], [], [], [(0, [(33, .sc (.k .b))])], []⟩), (1, ⟨[1, 2, 3, 4, 8, 9], [], [], [(0, [(11, .sc (.k .b))])], []⟩)] [(4, ⟨[1, 2, 3, 4], [], [], [(0, [(8, .box [.k (.i .i64), .k (.i .i64), .k (.i .i64), .k (.i .i64), .k .b, .k (.i .i64), .k .s, .k .l, .k .l]), (9, .box [.k (.i .i64), .k (.i .i64), .k .s])]), (1, [(8, .box [.k (.i .i64), .k (.i .i64), .k (.i .i64), .k (.i .i64), .k .b, .k (.i .i64), .k .s, .k .l, .k .l]), (9, .box [.k (.i .i64), .k (.i .i64), .k .s]), (10, .sc (.k .b))])], []⟩)] [] [] Try.func54 (by kernel_rfl) (lst4_of (fun _ _ _ _ => by kernel_rfl))
noncomputable def dL21Alive : Option MV :=
 bd (dAcceptorNew (.agg [.i .i64 1, .i .i64 0]) (.i .i64 2)) fun rA =>
 gT rA fun vs =>
 gC vs fun m msA =>
 gA m fun cs =>
 oIIIIBISLL .i64 .i64 .i64 .i64 .i64 cs fun SF ST Me View Has At Value Proof VotesL =>
 gC msA fun m10 msA10 =>
 gI .i64 m10 fun x =>
 gN msA10 <|
 bd (dAcceptorPropose (.agg (uIIIIBISLL SF ST Me View Has At Value Proof VotesL)) (.i .i64 0) (.s ([120] : List UInt8)) (.list ([] : List MV))) fun rA1 =>
 gT rA1 fun vs1 =>
 gC vs1 fun m11 msA11 =>
 gA m11 fun cs1 =>
 oIIIIBISLL .i64 .i64 .i64 .i64 .i64 cs1 fun SF1 ST1 Me1 View1 Has1 At1 Value1 Proof1 VotesL1 =>
 gC msA11 fun m21 msA21 =>
 gA m21 fun cs2 =>
 oIIS .i64 .i64 cs2 fun By View2 Value2 =>
 gC msA21 fun m25 msA25 =>
 gB m25 fun x1 =>
 gN msA25 <|
 bd (dAcceptorPropose (.agg (uIIIIBISLL SF1 ST1 Me1 View1 Has1 At1 Value1 Proof1 VotesL1)) (.i .i64 0) (.s ([121] : List UInt8)) (.list ([] : List MV))) fun rA2 =>
 gT rA2 fun vs2 =>
 gC vs2 fun m26 msA26 =>
 gA m26 fun cs3 =>
 oIIIIBISLL .i64 .i64 .i64 .i64 .i64 cs3 fun SF2 ST2 Me2 View3 Has2 At2 Value3 Proof2 VotesL2 =>
 gC msA26 fun m36 msA36 =>
 gA m36 fun cs4 =>
 oIIS .i64 .i64 cs4 fun By1 View4 Value4 =>
 gC msA36 fun m40 msA40 =>
 gB m40 fun x2 =>
 gN msA40 <|
 bd (dAcceptorEnter (.agg (uIIIIBISLL SF1 ST1 Me1 View1 Has1 At1 Value1 Proof1 VotesL1)) (.i .i64 3)) fun rA3 =>
 gT rA3 fun vs3 =>
 gC vs3 fun m41 msA41 =>
 gA m41 fun cs5 =>
 oIIIIBISLL .i64 .i64 .i64 .i64 .i64 cs5 fun SF3 ST3 Me3 View5 Has3 At3 Value5 Proof3 VotesL3 =>
 gC msA41 fun m51 msA51 =>
 gA m51 fun cs6 =>
 oIIBISL .i64 .i64 .i64 cs6 fun By2 For Has4 View6 Value6 Proof4 =>
 gC msA51 fun m58 msA58 =>
 gB m58 fun x3 =>
 gN msA58 <|
 bd (
 ifB (decide (x = 0)) (
 ifB x1 (
 ifB (!x2) (
 ifB x3 (
 ifB (decide (By = 2)) (
 ifB (decide (Value2 = ([120] : List UInt8))) (
 ifB (decide (View5 = 3)) (
 ifB (decide (For = 3)) (
 some [.b (decide (Value6 = ([120] : List UInt8)))]) (
 some [.b false])) (
 some [.b false])) (
 some [.b false])) (
 some [.b false])) (
 some [.b false])) (
 some [.b false])) (
 some [.b false])) (
 some [.b false])) fun vs4 =>
 gC vs4 fun m59 msA59 =>
 gB m59 fun x4 =>
 gN msA59 <|
 some (.b x4)
noncomputable def gL21Alive : Nat → List MV → Option MV := addG 12 (lst0 dL21Alive) gAcceptorPropose
theorem soundL21Alive : SoundG Try.prog cx gL21Alive := fnP soundAcceptorPropose [] 71 [(5, ⟨[2, 3, 4, 7, 8, 9, 10], [], [], [(0, [(0, .sc (.k .b))])], []⟩)] [] [] Try.func12 (by kernel_rfl) (lst0_of (by kernel_rfl))
noncomputable def dR07Right (sA : MV) : Option MV :=
 gA sA fun cs =>
 oII .i64 .i64 cs fun F T =>
 bd (
 ifB (decide ((1 : Int) ≤ F)) (
 ifB (decide (F ≤ 5)) (
 ifB (decide ((0 : Int) ≤ T)) (
 some [.b (decide (T ≤ F))]) (
 some [.b false])) (
 some [.b false])) (
 some [.b false])) fun vs =>
 gC vs fun m2 msA2 =>
 gB m2 fun x =>
 gN msA2 <|
 some (.b x)
noncomputable def gR07Right : Nat → List MV → Option MV := addG 62 (lst1 dR07Right) gL21Alive
theorem soundR07Right : SoundG Try.prog cx gR07Right := fnP soundL21Alive [] 23 [(1, ⟨[1], [], [], [(0, [(2, .sc (.k .b))])], []⟩)] [] [] Try.func62 (by kernel_rfl) (lst1_of (fun _ => by kernel_rfl))
noncomputable def dR07N (sA : MV) : Option MV :=
 gA sA fun cs =>
 oII .i64 .i64 cs fun F T =>
 some (.i .i64 (IntKind.wrap .i64 ((IntKind.wrap .i64 ((IntKind.wrap .i64 (3 * F)) + (IntKind.wrap .i64 (2 * T)))) + 1)))
noncomputable def gR07N : Nat → List MV → Option MV := addG 63 (lst1 dR07N) gR07Right
theorem soundR07N : SoundG Try.prog cx gR07N := fnP soundR07Right [] 11 [] [] [] Try.func63 (by kernel_rfl) (lst1_of (fun _ => by kernel_rfl))
noncomputable def dR21New (sA me : MV) : Option MV :=
 gA sA fun cs =>
 oII .i64 .i64 cs fun F T =>
 gI .i64 me fun me1 =>
 bd (
 bd (dR07Right (.agg [.i .i64 F, .i .i64 T])) fun rA =>
 gB rA fun x =>
 ifB (!x) (
 some [.b true]) (
 ifB (decide (me1 < 0)) (
 some [.b true]) (
 bd (dR07N (.agg [.i .i64 F, .i .i64 T])) fun rA1 =>
 gI .i64 rA1 fun x1 =>
 some [.b (decide (x1 ≤ me1))]))) fun vs =>
 gC vs fun m2 msA2 =>
 gB m2 fun x2 =>
 gN msA2 <|
 ifB x2 (
 some (.tup [.agg (uIIIIBISLL 0 0 0 0 false 0 ([] : List UInt8) ([] : List MV) ([] : List MV)), .i .i64 1])) (
 some (.tup [.agg (uIIIIBISLL F T me1 0 false 0 ([] : List UInt8) ([] : List MV) ([] : List MV)), .i .i64 0]))
noncomputable def gR21New : Nat → List MV → Option MV := addG 14 (lst2 dR21New) gR07N
theorem soundR21New : SoundG Try.prog cx gR21New := fnP soundR07N [] 23 [(1, ⟨[1, 2, 4], [], [], [(0, [(18, .sc (.k .b))])], []⟩)] [] [] Try.func14 (by kernel_rfl) (lst2_of (fun _ _ => by kernel_rfl))
noncomputable def dL21Sized (sA : MV) : Option MV :=
 gA sA fun cs =>
 oII .i64 .i64 cs fun F T =>
 some (.agg [.i .i64 F, .i .i64 T])
noncomputable def gL21Sized : Nat → List MV → Option MV := addG 15 (lst1 dL21Sized) gR21New
theorem soundL21Sized : SoundG Try.prog cx gL21Sized := fnP soundR21New [] 8 [] [] [] Try.func15 (by kernel_rfl) (lst1_of (fun _ => by kernel_rfl))
noncomputable def dR18Same (a b : MV) : Option MV :=
 gL a fun a1 =>
 gL b fun b1 =>
 lenN a1 fun len =>
 lenN b1 fun len1 =>
 ifB (!decide ((len : Int) = (len1 : Int))) (
 some (.b false)) (
 bd (Loop (fun msA =>
 gC msA fun m msA1 =>
 gI .i64 m fun i =>
 gN msA1 <|
 lenN a1 fun len2 =>
 ifB (decide (i < (len2 : Int))) (
 idx a1 i fun y =>
 gA y fun cs =>
 oIIS .i64 .i64 cs fun By View Value =>
 idx b1 i fun y1 =>
 gA y1 fun cs1 =>
 oIIS .i64 .i64 cs1 fun By1 View1 Value1 =>
 ifB (!((decide (By = By1)) && ((decide (View = View1)) && (decide (Value = Value1))))) (
 some (.inr (1, [.b false]))) (
 some (.inl [.i .i64 (IntKind.wrap .i64 (i + 1))]))) (
 some (.inr (2, [])))) [.i .i64 0]) fun p =>
 ifB (Nat.beq p.1 2) (
 gN p.2 <|
 some (.b true)) (
 chk (Nat.beq p.1 1) <|
 gC p.2 fun m7 msA8 =>
 gB m7 fun x =>
 gN msA8 <|
 some (.b x)))
noncomputable def gR18Same : Nat → List MV → Option MV := addG 58 (lst2 dR18Same) gL21Sized
theorem soundR18Same : SoundG Try.prog cx gR18Same := fnS soundL21Sized [] [] 26 [] [] [] [(6, [0, 1, 2, 3, 4, 5, 6, 7, 8])] [] [] [(4, ⟨[0, 1], [], [(5, .sc (.k (.i .i64)))], [(1, [(4, .sc (.k .b))]), (2, [])], []⟩)] [] Try.func58 (by kernel_rfl) (lst2_of (fun _ _ => by kernel_rfl))
noncomputable def dR21Same (a b : MV) : Option MV :=
 gA a fun cs =>
 oIIIIBISLL .i64 .i64 .i64 .i64 .i64 cs fun SF ST Me View Has At Value Proof VotesL =>
 gA b fun cs1 =>
 oIIIIBISLL .i64 .i64 .i64 .i64 .i64 cs1 fun SF1 ST1 Me1 View1 Has1 At1 Value1 Proof1 VotesL1 =>
 bd (
 ifB ((decide (SF = SF1)) && (decide (ST = ST1))) (
 ifB (decide (Me = Me1)) (
 ifB (decide (View = View1)) (
 ifB (decide (Has = Has1)) (
 ifB (decide (At = At1)) (
 some [.b (decide (Value = Value1))]) (
 some [.b false])) (
 some [.b false])) (
 some [.b false])) (
 some [.b false])) (
 some [.b false])) fun vs =>
 gC vs fun m18 msA18 =>
 gB m18 fun flat =>
 gN msA18 <|
 bd (
 ifB flat (
 bd (dR18Same (.list Proof) (.list Proof1)) fun rA =>
 gB rA fun x =>
 ifB x (
 bd (dR18Same (.list VotesL) (.list VotesL1)) fun rA1 =>
 gB rA1 fun x1 =>
 some [.b x1]) (
 some [.b false])) (
 some [.b false])) fun vs1 =>
 gC vs1 fun m19 msA19 =>
 gB m19 fun x2 =>
 gN msA19 <|
 some (.b x2)
noncomputable def gR21Same : Nat → List MV → Option MV := addG 16 (lst2 dR21Same) gR18Same
theorem soundR21Same : SoundG Try.prog cx gR21Same := fnP soundR18Same [] 63 [(2, ⟨[2, 3, 5], [], [], [(0, [(4, .sc (.k .b))])], []⟩), (1, ⟨[2, 3], [], [], [(0, [(5, .sc (.k .b))])], []⟩)] [] [] Try.func16 (by kernel_rfl) (lst2_of (fun _ _ => by kernel_rfl))
noncomputable def dL21Plain (a : MV) : Option MV :=
 gA a fun cs =>
 oIIIIBISLL .i64 .i64 .i64 .i64 .i64 cs fun SF ST Me View Has At Value Proof VotesL =>
 bd (dL21Sized (.agg [.i .i64 SF, .i .i64 ST])) fun rA =>
 gA rA fun cs1 =>
 oII .i64 .i64 cs1 fun F T =>
 some (.agg (uIIIIBISLL F T Me View Has At Value Proof VotesL))
noncomputable def gL21Plain : Nat → List MV → Option MV := addG 17 (lst1 dL21Plain) gR21Same
theorem soundL21Plain : SoundG Try.prog cx gL21Plain := fnS soundR21Same [] [] 23 [] [] [] [(1, [0, 1, 3, 4, 5, 6, 7, 8, 9, 10, 11, 12, 13, 14, 15, 16, 17, 18, 2, 19, 20])] [] [] [] [] Try.func17 (by kernel_rfl) (lst1_of (fun _ => by kernel_rfl))
noncomputable def dR18May (a : MV) : Option MV :=
 gA a fun cs =>
 oIIS .i64 .i64 cs fun By View Value =>
 bd (
 ifB (decide ((0 : Int) ≤ By)) (
 ifB (decide ((0 : Int) ≤ View)) (
 ifB (decide (View ≤ 100000)) (
 some [.b (decide ((Value.length : Int) ≤ 6000))]) (
 some [.b false])) (
 some [.b false])) (
 some [.b false])) fun vs =>
 gC vs fun m3 msA3 =>
 gB m3 fun x =>
 gN msA3 <|
 some (.b x)
noncomputable def gR18May : Nat → List MV → Option MV := addG 85 (lst1 dR18May) gL21Plain
theorem soundR18May : SoundG Try.prog cx gR18May := fnP soundL21Plain [] 22 [(1, ⟨[1], [], [], [(0, [(2, .sc (.k .b))])], []⟩)] [] [] Try.func85 (by kernel_rfl) (lst1_of (fun _ => by kernel_rfl))
noncomputable def dR18Right (t : MV) : Option MV :=
 gA t fun cs =>
 gC cs fun m msA =>
 gL m fun L =>
 gN msA <|
 bd (Loop (fun msA1 =>
 gC msA1 fun m1 msA2 =>
 gI .i64 m1 fun i =>
 gN msA2 <|
 lenN L fun len =>
 ifB (decide (i < (len : Int))) (
 bd (
 idx L i fun y =>
 gA y fun cs1 =>
 oIIS .i64 .i64 cs1 fun By View Value =>
 bd (dR18May (.agg [.i .i64 By, .i .i64 View, .s Value])) fun rA =>
 gB rA fun x =>
 ifB (!x) (
 some [.b true]) (
 ifB (decide ((0 : Int) < i)) (
 idx L (IntKind.wrap .i64 (i - 1)) fun y1 =>
 gA y1 fun cs2 =>
 oIIS .i64 .i64 cs2 fun By1 View1 Value1 =>
 idx L i fun y2 =>
 gA y2 fun cs3 =>
 oIIS .i64 .i64 cs3 fun By2 View2 Value2 =>
 some [.b (decide (By2 ≤ By1))]) (
 some [.b false]))) fun vs =>
 gC vs fun m11 msA12 =>
 gB m11 fun x1 =>
 gN msA12 <|
 ifB x1 (
 some (.inr (1, [.b false]))) (
 some (.inl [.i .i64 (IntKind.wrap .i64 (i + 1))]))) (
 some (.inr (2, [])))) [.i .i64 0]) fun p =>
 ifB (Nat.beq p.1 2) (
 gN p.2 <|
 some (.b true)) (
 chk (Nat.beq p.1 1) <|
 gC p.2 fun m12 msA13 =>
 gB m12 fun x2 =>
 gN msA13 <|
 some (.b x2))
noncomputable def gR18Right : Nat → List MV → Option MV := addG 67 (lst1 dR18Right) gR18May
theorem soundR18Right : SoundG Try.prog cx gR18Right := fnS soundR18May [] [] 38 [] [] [] [(4, [0, 1, 2, 3, 4, 5, 6, 7, 8, 9, 10, 11, 12, 13, 14, 15, 16, 17, 18, 19, 20, 21, 22, 23, 24, 25, 26])] [(4, ⟨[1, 3], [], [], [(0, [(37, .sc (.k .b))])], []⟩)] [] [(2, ⟨[1], [], [(3, .sc (.k (.i .i64)))], [(1, [(2, .sc (.k .b))]), (2, [])], []⟩)] [] Try.func67 (by kernel_rfl) (lst1_of (fun _ => by kernel_rfl))
noncomputable def dR07Proof (sA : MV) : Option MV :=
 gA sA fun cs =>
 oII .i64 .i64 cs fun F T =>
 some (.i .i64 (IntKind.wrap .i64 ((IntKind.wrap .i64 ((IntKind.wrap .i64 (2 * F)) + T)) + 1)))
noncomputable def gR07Proof : Nat → List MV → Option MV := addG 89 (lst1 dR07Proof) gR18Right
theorem soundR07Proof : SoundG Try.prog cx gR07Proof := fnP soundR18Right [] 10 [] [] [] Try.func89 (by kernel_rfl) (lst1_of (fun _ => by kernel_rfl))
noncomputable def dR19Right (a a1 : MV) : Option MV :=
 gA a fun cs =>
 oII .i64 .i64 cs fun F T =>
 gL a1 fun a1N1 =>
 bd (
 bd (dR07Right (.agg [.i .i64 F, .i .i64 T])) fun rA =>
 gB rA fun x =>
 ifB (!x) (
 some [.b true]) (
 lenN a1N1 fun len =>
 bd (dR07Proof (.agg [.i .i64 F, .i .i64 T])) fun rA1 =>
 gI .i64 rA1 fun x1 =>
 some [.b (!decide ((len : Int) = x1))])) fun vs =>
 gC vs fun m2 msA2 =>
 gB m2 fun x2 =>
 gN msA2 <|
 ifB x2 (
 some (.b false)) (
 bd (Loop (fun msA3 =>
 gC msA3 fun m3 msA4 =>
 gI .i64 m3 fun x3 =>
 gN msA4 <|
 lenN a1N1 fun len1 =>
 ifB (decide (x3 < (len1 : Int))) (
 idx a1N1 x3 fun y =>
 gA y fun cs1 =>
 oIIS .i64 .i64 cs1 fun By View Value =>
 bd (
 bd (dR18May (.agg [.i .i64 By, .i .i64 View, .s Value])) fun rA2 =>
 gB rA2 fun x4 =>
 ifB (!x4) (
 some [.b true]) (
 bd (dR07N (.agg [.i .i64 F, .i .i64 T])) fun rA3 =>
 gI .i64 rA3 fun x5 =>
 ifB (decide (x5 ≤ By)) (
 some [.b true]) (
 idx a1N1 0 fun y1 =>
 gA y1 fun cs2 =>
 oIIS .i64 .i64 cs2 fun By1 View1 Value1 =>
 ifB (!decide (View = View1)) (
 some [.b true]) (
 idx a1N1 0 fun y2 =>
 gA y2 fun cs3 =>
 oIIS .i64 .i64 cs3 fun By2 View2 Value2 =>
 ifB (!decide (Value = Value2)) (
 some [.b true]) (
 ifB (decide ((0 : Int) < x3)) (
 idx a1N1 (IntKind.wrap .i64 (x3 - 1)) fun y3 =>
 gA y3 fun cs4 =>
 oIIS .i64 .i64 cs4 fun By3 View3 Value3 =>
 some [.b (decide (By ≤ By3))]) (
 some [.b false])))))) fun vs1 =>
 gC vs1 fun m16 msA17 =>
 gB m16 fun x6 =>
 gN msA17 <|
 ifB x6 (
 some (.inr (1, [.b false]))) (
 some (.inl [.i .i64 (IntKind.wrap .i64 (x3 + 1))]))) (
 some (.inr (2, [])))) [.i .i64 0]) fun p =>
 ifB (Nat.beq p.1 2) (
 gN p.2 <|
 some (.b true)) (
 chk (Nat.beq p.1 1) <|
 gC p.2 fun m17 msA18 =>
 gB m17 fun x7 =>
 gN msA18 <|
 some (.b x7)))
noncomputable def gR19Right : Nat → List MV → Option MV := addG 68 (lst2 dR19Right) gR07Proof
theorem soundR19Right : SoundG Try.prog cx gR19Right := fnS soundR07Proof [] [] 70 [] [] [] [(7, [0, 1, 2, 3, 4, 5, 6, 7, 8, 9, 10, 11, 12, 13, 14, 15, 16, 17, 18, 19, 20, 21, 22, 23, 24, 25, 26, 27, 28, 29, 30, 31, 32, 33, 34, 35, 36, 37, 38, 39, 40, 41, 42])] [(7, ⟨[1, 2, 5, 6], [], [], [(0, [(69, .sc (.k .b))])], []⟩), (1, ⟨[1, 2], [], [], [(0, [(16, .sc (.k .b))])], []⟩)] [] [(4, ⟨[1, 2], [], [(5, .sc (.k (.i .i64)))], [(1, [(4, .sc (.k .b))]), (2, [])], []⟩)] [] Try.func68 (by kernel_rfl) (lst2_of (fun _ _ => by kernel_rfl))
noncomputable def dR21Right (a : MV) : Option MV :=
 gA a fun cs =>
 oIIIIBISLL .i64 .i64 .i64 .i64 .i64 cs fun SF ST Me View Has At Value Proof VotesL =>
 bd (dR21New (.agg [.i .i64 SF, .i .i64 ST]) (.i .i64 Me)) fun rA =>
 gT rA fun vs =>
 gC vs fun m9 msA9 =>
 gA m9 fun cs1 =>
 oIIIIBISLL .i64 .i64 .i64 .i64 .i64 cs1 fun SF1 ST1 Me1 View1 Has1 At1 Value1 Proof1 VotesL1 =>
 gC msA9 fun m19 msA19 =>
 gI .i64 m19 fun x =>
 gN msA19 <|
 bd (
 ifB (!decide (x = 0)) (
 some [.b true]) (
 ifB (decide (View < 0)) (
 some [.b true]) (
 ifB (decide ((100000 : Int) < View)) (
 some [.b true]) (
 bd (dR18Right (.agg [.list VotesL])) fun rA1 =>
 gB rA1 fun x1 =>
 some [.b (!x1)])))) fun vs1 =>
 gC vs1 fun m20 msA20 =>
 gB m20 fun x2 =>
 gN msA20 <|
 ifB x2 (
 some (.b false)) (
 bd (
 ifB Has (
 ifB (decide (At < 0)) (
 some [.b true]) (
 ifB (decide (View < At)) (
 some [.b true]) (
 ifB (decide ((6000 : Int) < (Value.length : Int))) (
 some [.b true]) (
 ifB (!Has) (
 ifB (!decide (At = 0)) (
 some [.b true]) (
 some [.b (!decide (Value = ([] : List UInt8)))])) (
 some [.b false]))))) (
 ifB (!Has) (
 ifB (!decide (At = 0)) (
 some [.b true]) (
 some [.b (!decide (Value = ([] : List UInt8)))])) (
 some [.b false]))) fun vs2 =>
 gC vs2 fun m21 msA21 =>
 gB m21 fun x3 =>
 gN msA21 <|
 ifB x3 (
 some (.b false)) (
 bd (
 lenN Proof fun len =>
 ifB (decide ((0 : Int) < (len : Int))) (
 bd (dR19Right (.agg [.i .i64 SF, .i .i64 ST]) (.list Proof)) fun rA2 =>
 gB rA2 fun x4 =>
 ifB (!x4) (
 some [.b true]) (
 idx Proof 0 fun y =>
 gA y fun cs2 =>
 oIIS .i64 .i64 cs2 fun By View2 Value2 =>
 some [.b (decide (View < View2))])) (
 some [.b false])) fun vs3 =>
 gC vs3 fun m25 msA25 =>
 gB m25 fun x5 =>
 gN msA25 <|
 ifB x5 (
 some (.b false)) (
 bd (Loop (fun msA26 =>
 gC msA26 fun m26 msA27 =>
 gI .i64 m26 fun x6 =>
 gN msA27 <|
 lenN VotesL fun len1 =>
 ifB (decide (x6 < (len1 : Int))) (
 bd (
 idx VotesL x6 fun y1 =>
 gA y1 fun cs3 =>
 oIIS .i64 .i64 cs3 fun By1 View3 Value3 =>
 bd (dR07N (.agg [.i .i64 SF, .i .i64 ST])) fun rA3 =>
 gI .i64 rA3 fun x7 =>
 ifB (decide (x7 ≤ By1)) (
 some [.b true]) (
 idx VotesL x6 fun y2 =>
 gA y2 fun cs4 =>
 oIIS .i64 .i64 cs4 fun By2 View4 Value4 =>
 some [.b (!decide (View4 = View))])) fun vs4 =>
 gC vs4 fun m33 msA34 =>
 gB m33 fun x8 =>
 gN msA34 <|
 ifB x8 (
 some (.inr (1, [.b false]))) (
 some (.inl [.i .i64 (IntKind.wrap .i64 (x6 + 1))]))) (
 some (.inr (2, [])))) [.i .i64 0]) fun p =>
 ifB (Nat.beq p.1 2) (
 gN p.2 <|
 some (.b true)) (
 chk (Nat.beq p.1 1) <|
 gC p.2 fun m34 msA35 =>
 gB m34 fun x9 =>
 gN msA35 <|
 some (.b x9)))))
noncomputable def gR21Right : Nat → List MV → Option MV := addG 20 (lst1 dR21Right) gR19Right
theorem soundR21Right : SoundG Try.prog cx gR21Right := fnS soundR19Right [] [] 120 [] [] [] [(6, [0, 1, 2, 3, 4, 5, 6, 7, 8, 9, 10, 11, 12, 13, 14, 15, 16, 17, 18, 19, 20, 21]), (11, [0, 1, 2, 3, 4, 5, 6, 7, 8, 9, 10, 11, 12, 13, 14, 15, 16, 17, 18, 19, 20, 21, 22])] [(11, ⟨[1, 5], [], [], [(0, [(119, .sc (.k .b))])], []⟩), (6, ⟨[1], [], [], [(0, [(88, .sc (.k .b))])], []⟩), (4, ⟨[1], [], [], [(0, [(66, .sc (.k .b))])], []⟩), (2, ⟨[1, 4], [], [], [(0, [(31, .sc (.k .b))])], []⟩)] [] [(9, ⟨[1], [], [(5, .sc (.k (.i .i64)))], [(1, [(2, .sc (.k .b))]), (2, [])], []⟩)] [] Try.func20 (by kernel_rfl) (lst1_of (fun _ => by kernel_rfl))
noncomputable def dR20One (a b : MV) : Option MV :=
 gA a fun cs =>
 oIIBISL .i64 .i64 .i64 cs fun By For Has View Value Proof =>
 gA b fun cs1 =>
 oIIBISL .i64 .i64 .i64 cs1 fun By1 For1 Has1 View1 Value1 Proof1 =>
 bd (
 ifB (decide (By = By1)) (
 ifB (decide (For = For1)) (
 ifB (decide (Has = Has1)) (
 ifB (decide (View = View1)) (
 ifB (decide (Value = Value1)) (
 bd (dR18Same (.list Proof) (.list Proof1)) fun rA =>
 gB rA fun x =>
 some [.b x]) (
 some [.b false])) (
 some [.b false])) (
 some [.b false])) (
 some [.b false])) (
 some [.b false])) fun vs =>
 gC vs fun m12 msA12 =>
 gB m12 fun x1 =>
 gN msA12 <|
 some (.b x1)
noncomputable def gR20One : Nat → List MV → Option MV := addG 21 (lst2 dR20One) gR21Right
theorem soundR20One : SoundG Try.prog cx gR20One := fnP soundR21Right [] 45 [(1, ⟨[2, 3], [], [], [(0, [(4, .sc (.k .b))])], []⟩)] [] [] Try.func21 (by kernel_rfl) (lst2_of (fun _ _ => by kernel_rfl))
noncomputable def dR21Tell (a : MV) : Option MV :=
 gA a fun cs =>
 oIIIIBISLL .i64 .i64 .i64 .i64 .i64 cs fun SF ST Me View Has At Value Proof VotesL =>
 some (.agg (uIIBISL Me View Has At Value Proof))
noncomputable def gR21Tell : Nat → List MV → Option MV := addG 23 (lst1 dR21Tell) gR20One
theorem soundR21Tell : SoundG Try.prog cx gR21Tell := fnP soundR20One [] 16 [] [] [] Try.func23 (by kernel_rfl) (lst1_of (fun _ => by kernel_rfl))
noncomputable def dCmpIsNaNInt (x : MV) : Option MV :=
 gI .i64 x fun x1 =>
 some (.b (!decide (x1 = x1)))
noncomputable def gCmpIsNaNInt : Nat → List MV → Option MV := addG 133 (lst1 dCmpIsNaNInt) gR21Tell
theorem soundCmpIsNaNInt : SoundG Try.prog cx gCmpIsNaNInt := fnP soundR21Tell [] 6 [] [] [] Try.func133 (by kernel_rfl) (lst1_of (fun _ => by kernel_rfl))
noncomputable def dCmpCompareInt (x y : MV) : Option MV :=
 gI .i64 x fun x1 =>
 gI .i64 y fun y1 =>
 bd (dCmpIsNaNInt (.i .i64 x1)) fun rA =>
 gB rA fun x2 =>
 bd (dCmpIsNaNInt (.i .i64 y1)) fun rA1 =>
 gB rA1 fun x3 =>
 ifB x2 (
 ifB x3 (
 some (.i .i64 0)) (
 some (.i .i64 (-1)))) (
 ifB x3 (
 some (.i .i64 1)) (
 ifB (decide (x1 < y1)) (
 some (.i .i64 (-1))) (
 ifB (decide (y1 < x1)) (
 some (.i .i64 1)) (
 some (.i .i64 0)))))
noncomputable def gCmpCompareInt : Nat → List MV → Option MV := addG 116 (lst2 dCmpCompareInt) gCmpIsNaNInt
theorem soundCmpCompareInt : SoundG Try.prog cx gCmpCompareInt := fnP soundCmpIsNaNInt [] 20 [] [] [] Try.func116 (by kernel_rfl) (lst2_of (fun _ _ => by kernel_rfl))
noncomputable def dTallyAddF1 (x byA : MV) : Option MV :=
 gA x fun cs =>
 oIIS .i64 .i64 cs fun By View Value =>
 gI .i64 byA fun byA1 =>
 bd (dCmpCompareInt (.i .i64 By) (.i .i64 byA1)) fun rA =>
 gI .i64 rA fun x1 =>
 some (.i .i64 x1)
noncomputable def gTallyAddF1 : Nat → List MV → Option MV := addG 115 (lst2 dTallyAddF1) gCmpCompareInt
theorem soundTallyAddF1 : SoundG Try.prog cx gTallyAddF1 := fnP soundCmpCompareInt [] 9 [] [] [] Try.func115 (by kernel_rfl) (lst2_of (fun _ _ => by kernel_rfl))
noncomputable def preSlicesBinarySearchFuncApiAcceptInt : Nat → List MV → Option MV := gTallyAddF1
theorem atSlicesBinarySearchFuncApiAcceptIntTallyAddF1 (x0 x1 : MV) : preSlicesBinarySearchFuncApiAcceptInt 115 [x0, x1] = dTallyAddF1 x0 x1 := by kernel_rfl
noncomputable def dSlicesBinarySearchFuncApiAcceptInt (x target cmp : MV) : Option MV :=
 gL x fun x1 =>
 gI .i64 target fun target1 =>
 gR cmp fun cmp1 =>
 lenN x1 fun len =>
 bd (Loop (fun msA =>
 oII .i64 .i64 msA fun i j =>
 ifB (decide (i < j)) (
 chk (decide ((0 : Int) ≤ 1)) <|
 idx x1 (IntKind.wrap .i64 (Int.fdiv (IntKind.wrap .u64 (IntKind.wrap .i64 (i + j))) (2 ^ min (Int.toNat 1) (IntKind.bits .u64)))) fun y =>
 gA y fun cs =>
 oIIS .i64 .i64 cs fun By View Value =>
 gFn cmp1 fun fn cap =>
 chk (!gv fn) <|
 bd (preSlicesBinarySearchFuncApiAcceptInt fn ([.agg [.i .i64 By, .i .i64 View, .s Value], .i .i64 target1] ++ cap)) fun rA =>
 gI .i64 rA fun x2 =>
 bd (
 ifB (decide (x2 < 0)) (
 some (0, [.i .i64 (IntKind.wrap .i64 ((IntKind.wrap .i64 (Int.fdiv (IntKind.wrap .u64 (IntKind.wrap .i64 (i + j))) (2 ^ min (Int.toNat 1) (IntKind.bits .u64)))) + 1)), .i .i64 j])) (
 some (0, [.i .i64 i, .i .i64 (IntKind.wrap .i64 (Int.fdiv (IntKind.wrap .u64 (IntKind.wrap .i64 (i + j))) (2 ^ min (Int.toNat 1) (IntKind.bits .u64))))]))) fun p1 =>
 chk (Nat.beq p1.1 0) <|
 oII .i64 .i64 p1.2 fun i1 j1 =>
 some (.inl [.i .i64 i1, .i .i64 j1])) (
 some (.inr (2, [.i .i64 i])))) [.i .i64 0, .i .i64 (len : Int)]) fun p =>
 chk (Nat.beq p.1 2) <|
 gC p.2 fun m7 msA8 =>
 gI .i64 m7 fun i2 =>
 gN msA8 <|
 bd (
 ifB (decide (i2 < (len : Int))) (
 idx x1 i2 fun y1 =>
 gA y1 fun cs1 =>
 oIIS .i64 .i64 cs1 fun By1 View1 Value1 =>
 gFn cmp1 fun fn1 cap1 =>
 chk (!gv fn1) <|
 bd (preSlicesBinarySearchFuncApiAcceptInt fn1 ([.agg [.i .i64 By1, .i .i64 View1, .s Value1], .i .i64 target1] ++ cap1)) fun rA1 =>
 gI .i64 rA1 fun x3 =>
 some [.i .i64 i2, .b (decide (x3 = 0))]) (
 some [.i .i64 i2, .b false])) fun vs =>
 gC vs fun m11 msA12 =>
 gI .i64 m11 fun x4 =>
 gC msA12 fun m12 msA13 =>
 gB m12 fun x5 =>
 gN msA13 <|
 some (.tup [.i .i64 x4, .b x5])
noncomputable def gSlicesBinarySearchFuncApiAcceptInt : Nat → List MV → Option MV := addG 114 (lst3 dSlicesBinarySearchFuncApiAcceptInt) gTallyAddF1
theorem soundSlicesBinarySearchFuncApiAcceptInt : SoundG Try.prog cx gSlicesBinarySearchFuncApiAcceptInt := fnP soundTallyAddF1 [] 49 [(8, ⟨[0, 1, 2, 8, 9], [], [], [(0, [(6, .sc (.k (.i .i64))), (7, .sc (.k .b))])], []⟩)] [(6, ⟨[0, 1, 2, 8, 11], [], [], [(0, [(9, .sc (.k (.i .i64))), (10, .sc (.k (.i .i64)))])], []⟩)] [(3, ⟨[0, 1, 2, 8], [], [(9, .sc (.k (.i .i64))), (10, .sc (.k (.i .i64)))], [(2, [(9, .sc (.k (.i .i64)))])], []⟩)] Try.func114 (by kernel_rfl) (lst3_of (fun _ _ _ => by kernel_rfl))
noncomputable def dTallyAdd (t a : MV) : Option MV :=
 gA t fun cs =>
 gC cs fun m msA =>
 gL m fun L =>
 gN msA <|
 gA a fun cs1 =>
 oIIS .i64 .i64 cs1 fun By View Value =>
 bd (dTallyMay (.agg [.i .i64 By, .i .i64 View, .s Value])) fun rA =>
 gB rA fun x =>
 ifB (!x) (
 some (.tup [.agg [.list L], .b false])) (
 bd (dSlicesBinarySearchFuncApiAcceptInt (.list L) (.i .i64 By) (.func 115 [])) fun rA1 =>
 gT rA1 fun vs =>
 gC vs fun m4 msA4 =>
 gI .i64 m4 fun x1 =>
 gC msA4 fun m5 msA5 =>
 gB m5 fun x2 =>
 gN msA5 <|
 bd (
 ifB x2 (
 idx L x1 fun y =>
 gA y fun cs2 =>
 oIIS .i64 .i64 cs2 fun By1 View1 Value1 =>
 some [.b (decide (View ≤ View1))]) (
 some [.b false])) fun vs1 =>
 gC vs1 fun m9 msA9 =>
 gB m9 fun x3 =>
 gN msA9 <|
 ifB x3 (
 some (.tup [.agg [.list L], .b false])) (
 bd (cloneF 3 32 [.list L]) fun rA2 =>
 gF rA2 fun xs =>
 bd (
 ifB x2 (
 idx xs x1 fun y1 =>
 gA y1 fun cs3 =>
 oIIS .i64 .i64 cs3 fun By2 View2 Value2 =>
 some (0, [.list (xs.set (Int.toNat x1) (.agg [.i .i64 By, .i .i64 View, .s Value]))])) (
 bd (insertF 32 [.fresh xs, .i .i64 x1, .fresh ([.agg [.i .i64 By, .i .i64 View, .s Value]] : List MV)]) fun rA3 =>
 gF rA3 fun xs1 =>
 some (0, [.list xs1]))) fun p =>
 chk (Nat.beq p.1 0) <|
 gC p.2 fun m13 msA13 =>
 gL m13 fun lA =>
 gN msA13 <|
 some (.tup [.agg [.list lA], .b true])))
noncomputable def gTallyAdd : Nat → List MV → Option MV := addG 94 (lst2 dTallyAdd) gSlicesBinarySearchFuncApiAcceptInt
theorem soundTallyAdd : SoundG Try.prog cx gTallyAdd := fnS soundSlicesBinarySearchFuncApiAcceptInt [] [] 49 [] [] [] [(4, [0, 1, 2, 3, 4, 5, 6, 7, 8, 9, 10, 11])] [(4, ⟨[2, 3, 4, 6, 7], [], [], [(0, [(32, .sc (.k .b))])], [45, 46]⟩)] [(8, ⟨[3, 4, 6], [], [], [(0, [(8, .sc (.own 36 72 false))])], [45, 46]⟩)] [] [] Try.func94 (by kernel_rfl) (lst2_of (fun _ _ => by kernel_rfl))
noncomputable def dTallyBest (a a1 : MV) : Option MV :=
 gA a fun cs =>
 gC cs fun m msA =>
 gL m fun L =>
 gN msA <|
 gI .i64 a1 fun a1N1 =>
 lenN L fun len =>
 bd (Loop (fun msA1 =>
 gC msA1 fun m1 msA2 =>
 gL m1 fun es =>
 gC msA2 fun m2 msA3 =>
 gI .i64 m2 fun x =>
 gN msA3 <|
 ifB (decide (x < (len : Int))) (
 idx L x fun y =>
 gA y fun cs1 =>
 oIIS .i64 .i64 cs1 fun By View Value =>
 chk (decide ((0 : Int) ≤ (midx es ([.i .i64 View, .s Value] : List MV) : Int) ∧ Int.toNat (midx es ([.i .i64 View, .s Value] : List MV) : Int) < (ment es ([.i .i64 View, .s Value] : List MV) (.i .i64 0)).length)) <|
 some (.inl [.list (mset (ment es ([.i .i64 View, .s Value] : List MV) (.i .i64 0)) (Int.toNat (midx es ([.i .i64 View, .s Value] : List MV) : Int)) (.i .i64 (IntKind.wrap .i64 ((mgetI es ([.i .i64 View, .s Value] : List MV)) + 1)))), .i .i64 (IntKind.wrap .i64 (x + 1))])) (
 some (.inr (2, [.list es])))) [.list ([] : List MV), .i .i64 0]) fun p =>
 chk (Nat.beq p.1 2) <|
 gC p.2 fun m6 msA7 =>
 gL m6 fun es1 =>
 gN msA7 <|
 lenN L fun len1 =>
 bd (Loop (fun msA8 =>
 gC msA8 fun m7 msA9 =>
 gI .i64 m7 fun x1 =>
 gC msA9 fun m8 msA10 =>
 gS m8 fun x2 =>
 gC msA10 fun m9 msA11 =>
 gB m9 fun x3 =>
 gC msA11 fun m10 msA12 =>
 gI .i64 m10 fun x4 =>
 gN msA12 <|
 ifB (decide (x4 < (len1 : Int))) (
 idx L x4 fun y1 =>
 gA y1 fun cs2 =>
 oIIS .i64 .i64 cs2 fun By1 View1 Value1 =>
 bd (
 ifB (decide ((1 : Int) ≤ a1N1)) (
 ifB (decide (a1N1 ≤ (mgetI es1 ([.i .i64 View1, .s Value1] : List MV)))) (
 some [.b (decide (x1 < View1))]) (
 some [.b false])) (
 some [.b false])) fun vs =>
 gC vs fun m14 msA16 =>
 gB m14 fun x5 =>
 gN msA16 <|
 bd (
 ifB x5 (
 some (0, [.i .i64 View1, .s Value1, .b true])) (
 some (0, [.i .i64 x1, .s x2, .b x3]))) fun p2 =>
 chk (Nat.beq p2.1 0) <|
 oISB .i64 p2.2 fun x6 x7 x8 =>
 some (.inl [.i .i64 x6, .s x7, .b x8, .i .i64 (IntKind.wrap .i64 (x4 + 1))])) (
 some (.inr (4, [.i .i64 x1, .s x2, .b x3])))) [.i .i64 (-1), .s ([] : List UInt8), .b false, .i .i64 0]) fun p1 =>
 chk (Nat.beq p1.1 4) <|
 oISB .i64 p1.2 fun x9 x10 x11 =>
 ifB (!x11) (
 some (.tup [.i .i64 0, .s ([] : List UInt8), .b false])) (
 some (.tup [.i .i64 x9, .s x10, .b true]))
noncomputable def gTallyBest : Nat → List MV → Option MV := addG 108 (lst2 dTallyBest) gTallyAdd
theorem soundTallyBest : SoundG Try.prog cx gTallyBest := fnS soundTallyAdd [] [] 71 [] [] [] [(5, [0, 1, 2, 3, 4, 5, 6, 7, 8, 9, 10]), (17, [0, 1, 2, 3, 4, 5, 6])] [(12, ⟨[1, 7, 10, 11, 14, 36, 37, 38], [], [], [(0, [(62, .sc (.k .b))])], []⟩)] [(13, ⟨[1, 7, 14, 36, 37, 38], [], [], [(0, [(10, .box [.k (.i .i64), .k .s]), (11, .sc (.k .b))])], []⟩)] [(9, ⟨[1, 7, 36, 37], [], [(10, .box [.k (.i .i64), .k .s]), (11, .sc (.k .b)), (38, .sc (.k (.i .i64)))], [(4, [(10, .box [.k (.i .i64), .k .s]), (11, .sc (.k .b))])], []⟩), (3, ⟨[1, 2, 17, 18], [], [(7, .mp ⟨true, [.i .i64, .s], false⟩), (19, .sc (.k (.i .i64)))], [(2, [(7, .mp ⟨true, [.i .i64, .s], false⟩)])], []⟩)] [] Try.func108 (by kernel_rfl) (lst2_of (fun _ _ => by kernel_rfl))
noncomputable def dR18Add (a a1 : MV) : Option MV :=
 gA a fun cs =>
 gC cs fun m msA =>
 gL m fun L =>
 gN msA <|
 gA a1 fun cs1 =>
 oIIS .i64 .i64 cs1 fun By View Value =>
 bd (dR18May (.agg [.i .i64 By, .i .i64 View, .s Value])) fun rA =>
 gB rA fun x =>
 ifB (!x) (
 some (.tup [.agg [.list L], .b false])) (
 bd (Loop (fun msA4 =>
 gC msA4 fun m4 msA5 =>
 gL m4 fun x1 =>
 gC msA5 fun m5 msA6 =>
 gL m5 fun xs =>
 gC msA6 fun m6 msA7 =>
 gB m6 fun x2 =>
 gC msA7 fun m7 msA8 =>
 gI .i64 m7 fun x3 =>
 gN msA8 <|
 lenN L fun len =>
 ifB (decide (x3 < (len : Int))) (
 idx L x3 fun y =>
 gA y fun cs2 =>
 oIIS .i64 .i64 cs2 fun By1 View1 Value1 =>
 bd (
 ifB (decide (By1 = By)) (
 some [.b (decide (View ≤ View1))]) (
 some [.b false])) fun vs =>
 gC vs fun m11 msA12 =>
 gB m11 fun x4 =>
 gN msA12 <|
 ifB x4 (
 some (.inr (1, [.list L, .b false]))) (
 bd (
 ifB (!x2) (
 some [.b (decide (By ≤ By1))]) (
 some [.b false])) fun vs1 =>
 gC vs1 fun m12 msA13 =>
 gB m12 fun x5 =>
 gN msA13 <|
 bd (
 ifB x5 (
 lenN xs fun len1 =>
 lenN ([.agg [.i .i64 By, .i .i64 View, .s Value]] : List MV) fun len2 =>
 chk (decide ((len1 + len2) * 32 ≤ 2 ^ 46)) <|
 some (0, [.list (xs ++ ([.agg [.i .i64 By, .i .i64 View, .s Value]] : List MV)), .b true])) (
 some (0, [.list xs, .b x2]))) fun p1 =>
 chk (Nat.beq p1.1 0) <|
 gC p1.2 fun m13 msA14 =>
 gL m13 fun xs1 =>
 gC msA14 fun m14 msA15 =>
 gB m14 fun x6 =>
 gN msA15 <|
 bd (
 ifB (!decide (By1 = By)) (
 lenN xs1 fun len3 =>
 lenN ([.agg [.i .i64 By1, .i .i64 View1, .s Value1]] : List MV) fun len4 =>
 chk (decide ((len3 + len4) * 32 ≤ 2 ^ 46)) <|
 some (0, [.list (xs1 ++ ([.agg [.i .i64 By1, .i .i64 View1, .s Value1]] : List MV))])) (
 some (0, [.list xs1]))) fun p2 =>
 chk (Nat.beq p2.1 0) <|
 gC p2.2 fun m15 msA16 =>
 gL m15 fun xs2 =>
 gN msA16 <|
 some (.inl [.list x1, .list xs2, .b x6, .i .i64 (IntKind.wrap .i64 (x3 + 1))]))) (
 some (.inr (2, [.list x1, .list xs, .b x2])))) [.list ([] : List MV), .list ([] : List MV), .b false, .i .i64 0]) fun p =>
 ifB (Nat.beq p.1 2) (
 gC p.2 fun m16 msA17 =>
 gL m16 fun x7 =>
 gC msA17 fun m17 msA18 =>
 gL m17 fun xs3 =>
 gC msA18 fun m18 msA19 =>
 gB m18 fun x8 =>
 gN msA19 <|
 bd (
 ifB (!x8) (
 lenN xs3 fun len5 =>
 lenN ([.agg [.i .i64 By, .i .i64 View, .s Value]] : List MV) fun len6 =>
 chk (decide ((len5 + len6) * 32 ≤ 2 ^ 46)) <|
 some (0, [.list (xs3 ++ ([.agg [.i .i64 By, .i .i64 View, .s Value]] : List MV))])) (
 some (0, [.list xs3]))) fun p5 =>
 chk (Nat.beq p5.1 0) <|
 gC p5.2 fun m19 msA20 =>
 gL m19 fun xs4 =>
 gN msA20 <|
 some (.tup [.agg [.list xs4], .b true])) (
 chk (Nat.beq p.1 1) <|
 gC p.2 fun m20 msA21 =>
 gL m20 fun x9 =>
 gC msA21 fun m21 msA22 =>
 gB m21 fun x10 =>
 gN msA22 <|
 some (.tup [.agg [.list x9], .b x10])))
noncomputable def gR18Add : Nat → List MV → Option MV := addG 84 (lst2 dR18Add) gTallyBest
theorem soundR18Add : SoundG Try.prog cx gR18Add := fnS soundTallyBest [] [] 70 [51, 60, 66] [] [] [] [(11, ⟨[2, 3, 4, 6, 7, 8, 9], [14], [], [(0, [(48, .sc (.k .b))])], [14]⟩), (9, ⟨[2, 3, 4, 6, 7, 8, 9], [14], [], [(0, [(38, .sc (.k .b))])], [14]⟩)] [(17, ⟨[3, 4], [], [], [(0, [(6, .sc (.own 14 72 true))])], [14]⟩), (15, ⟨[2, 3, 4, 7, 8, 9], [], [], [(0, [(6, .sc (.own 14 72 true))])], [14]⟩), (12, ⟨[2, 3, 4, 8, 9], [], [], [(0, [(6, .sc (.own 14 72 true)), (7, .sc (.k .b))])], [14]⟩)] [(6, ⟨[2, 3], [], [(4, .box [.k .l]), (6, .sc (.own 14 72 true)), (7, .sc (.k .b)), (8, .sc (.k (.i .i64)))], [(1, [(4, .box [.k .l]), (5, .sc (.k .b))]), (2, [(4, .box [.k .l]), (6, .sc (.own 14 72 true)), (7, .sc (.k .b))])], [14]⟩)] [] Try.func84 (by kernel_rfl) (lst2_of (fun _ _ => by kernel_rfl))
noncomputable def dR18Voters (t view value : MV) : Option MV :=
 gA t fun cs =>
 gC cs fun m msA =>
 gL m fun L =>
 gN msA <|
 gI .i64 view fun view1 =>
 gS value fun value1 =>
 bd (Loop (fun msA1 =>
 gC msA1 fun m1 msA2 =>
 gL m1 fun out =>
 gC msA2 fun m2 msA3 =>
 gI .i64 m2 fun i =>
 gN msA3 <|
 lenN L fun len =>
 ifB (decide (i < (len : Int))) (
 bd (
 idx L i fun y =>
 gA y fun cs1 =>
 oIIS .i64 .i64 cs1 fun By View Value =>
 ifB (decide (View = view1)) (
 idx L i fun y1 =>
 gA y1 fun cs2 =>
 oIIS .i64 .i64 cs2 fun By1 View1 Value1 =>
 some [.b (decide (Value1 = value1))]) (
 some [.b false])) fun vs =>
 gC vs fun m9 msA10 =>
 gB m9 fun x =>
 gN msA10 <|
 bd (
 ifB x (
 idx L i fun y2 =>
 gA y2 fun cs3 =>
 oIIS .i64 .i64 cs3 fun By2 View2 Value2 =>
 lenN out fun len1 =>
 lenN ([.agg [.i .i64 By2, .i .i64 View2, .s Value2]] : List MV) fun len2 =>
 chk (decide ((len1 + len2) * 32 ≤ 2 ^ 46)) <|
 some (0, [.list (out ++ ([.agg [.i .i64 By2, .i .i64 View2, .s Value2]] : List MV))])) (
 some (0, [.list out]))) fun p1 =>
 chk (Nat.beq p1.1 0) <|
 gC p1.2 fun m13 msA14 =>
 gL m13 fun out1 =>
 gN msA14 <|
 some (.inl [.list out1, .i .i64 (IntKind.wrap .i64 (i + 1))])) (
 some (.inr (2, [.list out])))) [.list ([] : List MV), .i .i64 0]) fun p =>
 chk (Nat.beq p.1 2) <|
 gC p.2 fun m14 msA15 =>
 gL m14 fun out2 =>
 gN msA15 <|
 some (.list out2)
noncomputable def gR18Voters : Nat → List MV → Option MV := addG 120 (lst3 dR18Voters) gR18Add
theorem soundR18Voters : SoundG Try.prog cx gR18Voters := fnS soundR18Add [] [] 44 [41] [] [] [] [(5, ⟨[1, 2, 3, 7, 8], [9], [], [(0, [(34, .sc (.k .b))])], [9]⟩)] [(6, ⟨[1, 2, 3, 8], [], [], [(0, [(7, .sc (.own 9 72 true))])], [9]⟩)] [(3, ⟨[1, 2, 3], [], [(7, .sc (.own 9 72 true)), (8, .sc (.k (.i .i64)))], [(2, [(7, .sc (.own 9 72 true))])], [9]⟩)] [] Try.func120 (by kernel_rfl) (lst3_of (fun _ _ _ => by kernel_rfl))
noncomputable def dR18Count (t view value : MV) : Option MV :=
 gA t fun cs =>
 gC cs fun m msA =>
 gL m fun L =>
 gN msA <|
 gI .i64 view fun view1 =>
 gS value fun value1 =>
 bd (dR18Voters (.agg [.list L]) (.i .i64 view1) (.s value1)) fun rA =>
 gL rA fun x =>
 lenN x fun len =>
 some (.i .i64 (len : Int))
noncomputable def gR18Count : Nat → List MV → Option MV := addG 128 (lst3 dR18Count) gR18Voters
theorem soundR18Count : SoundG Try.prog cx gR18Count := fnP soundR18Voters [] 12 [] [] [] Try.func128 (by kernel_rfl) (lst3_of (fun _ _ _ => by kernel_rfl))
noncomputable def dR18Best (t need : MV) : Option MV :=
 gA t fun cs =>
 gC cs fun m msA =>
 gL m fun L =>
 gN msA <|
 gI .i64 need fun need1 =>
 bd (Loop (fun msA1 =>
 oII .i64 .i64 msA1 fun best i =>
 bd (
 lenN L fun len =>
 ifB (decide (i < (len : Int))) (
 some [.b (decide ((1 : Int) ≤ need1))]) (
 some [.b false])) fun vs =>
 gC vs fun m3 msA4 =>
 gB m3 fun x =>
 gN msA4 <|
 ifB x (
 idx L i fun y =>
 gA y fun cs1 =>
 oIIS .i64 .i64 cs1 fun By View Value =>
 bd (
 bd (dR18Count (.agg [.list L]) (.i .i64 View) (.s Value)) fun rA =>
 gI .i64 rA fun x1 =>
 ifB (decide (need1 ≤ x1)) (
 ifB (decide (best < 0)) (
 some [.b true]) (
 idx L best fun y1 =>
 gA y1 fun cs2 =>
 oIIS .i64 .i64 cs2 fun By1 View1 Value1 =>
 some [.b (decide (View1 < View))])) (
 some [.b false])) fun vs1 =>
 gC vs1 fun m10 msA11 =>
 gB m10 fun x2 =>
 gN msA11 <|
 bd (
 ifB x2 (
 some (0, [.i .i64 i])) (
 some (0, [.i .i64 best]))) fun p1 =>
 chk (Nat.beq p1.1 0) <|
 gC p1.2 fun m11 msA12 =>
 gI .i64 m11 fun best1 =>
 gN msA12 <|
 some (.inl [.i .i64 best1, .i .i64 (IntKind.wrap .i64 (i + 1))])) (
 some (.inr (2, [.i .i64 best])))) [.i .i64 (-1), .i .i64 0]) fun p =>
 chk (Nat.beq p.1 2) <|
 gC p.2 fun m12 msA13 =>
 gI .i64 m12 fun best2 =>
 gN msA13 <|
 ifB (decide (best2 < 0)) (
 some (.tup [.i .i64 0, .s ([] : List UInt8), .b false])) (
 idx L best2 fun y2 =>
 gA y2 fun cs3 =>
 oIIS .i64 .i64 cs3 fun By2 View2 Value2 =>
 idx L best2 fun y3 =>
 gA y3 fun cs4 =>
 oIIS .i64 .i64 cs4 fun By3 View3 Value3 =>
 some (.tup [.i .i64 View2, .s Value3, .b true]))
noncomputable def gR18Best : Nat → List MV → Option MV := addG 109 (lst2 dR18Best) gR18Count
theorem soundR18Best : SoundG Try.prog cx gR18Best := fnS soundR18Count [] [] 64 [] [] [] [(6, [0, 1, 2, 3, 4, 6, 5, 7, 8, 9, 10, 11, 12, 13, 14, 15, 16, 17, 18, 19, 20, 21, 22]), (10, [0, 1, 2, 3, 4, 5, 6, 7, 8, 9, 10, 11, 12, 13, 14])] [(6, ⟨[1, 2, 7, 8, 9], [], [], [(0, [(48, .sc (.k .b))])], []⟩), (3, ⟨[1, 2, 7, 8], [], [], [(0, [(18, .sc (.k .b))])], []⟩)] [(7, ⟨[1, 2, 8], [], [], [(0, [(7, .sc (.k (.i .i64)))])], []⟩)] [(3, ⟨[1, 2], [], [(7, .sc (.k (.i .i64))), (8, .sc (.k (.i .i64)))], [(2, [(7, .sc (.k (.i .i64)))])], []⟩)] [] Try.func109 (by kernel_rfl) (lst2_of (fun _ _ => by kernel_rfl))
noncomputable def dL21Short (lA : MV) : Option MV :=
 gL lA fun lA1 =>
 bd (Loop (fun msA =>
 gC msA fun m msA1 =>
 gI .i64 m fun i =>
 gN msA1 <|
 lenN lA1 fun len =>
 ifB (decide (i < (len : Int))) (
 bd (
 ifB (decide (i = 30)) (
 some [.b true]) (
 idx lA1 i fun y =>
 gA y fun cs =>
 oIIBISL .i64 .i64 .i64 cs fun By For Has View Value Proof =>
 ifB (decide ((6100 : Int) < (Value.length : Int))) (
 some [.b true]) (
 idx lA1 i fun y1 =>
 gA y1 fun cs1 =>
 oIIBISL .i64 .i64 .i64 cs1 fun By1 For1 Has1 View1 Value1 Proof1 =>
 bd (dL21Votes (.list Proof1)) fun rA =>
 gB rA fun x =>
 some [.b (!x)]))) fun vs =>
 gC vs fun m13 msA14 =>
 gB m13 fun x1 =>
 gN msA14 <|
 ifB x1 (
 some (.inr (1, [.b false]))) (
 some (.inl [.i .i64 (IntKind.wrap .i64 (i + 1))]))) (
 some (.inr (2, [])))) [.i .i64 0]) fun p =>
 ifB (Nat.beq p.1 2) (
 gN p.2 <|
 some (.b true)) (
 chk (Nat.beq p.1 1) <|
 gC p.2 fun m14 msA15 =>
 gB m14 fun x2 =>
 gN msA15 <|
 some (.b x2))
noncomputable def gL21Short : Nat → List MV → Option MV := addG 51 (lst1 dL21Short) gR18Best
theorem soundL21Short : SoundG Try.prog cx gL21Short := fnP soundR18Best [] 30 [(4, ⟨[0, 3], [], [], [(0, [(29, .sc (.k .b))])], []⟩)] [] [(2, ⟨[0], [], [(3, .sc (.k (.i .i64)))], [(1, [(2, .sc (.k .b))]), (2, [])], []⟩)] Try.func51 (by kernel_rfl) (lst1_of (fun _ => by kernel_rfl))
noncomputable def dR21Enter (a view : MV) : Option MV :=
 gA a fun cs =>
 oIIIIBISLL .i64 .i64 .i64 .i64 .i64 cs fun SF ST Me View Has At Value Proof VotesL =>
 gI .i64 view fun view1 =>
 bd (
 ifB (decide (view1 ≤ View)) (
 some [.b true]) (
 some [.b (decide ((100000 : Int) < view1))])) fun vs =>
 gC vs fun m9 msA9 =>
 gB m9 fun x =>
 gN msA9 <|
 ifB x (
 some (.tup [.agg (uIIIIBISLL SF ST Me View Has At Value Proof VotesL), .agg (uIIBISL 0 0 false 0 ([] : List UInt8) ([] : List MV)), .b false])) (
 bd (dR21Tell (.agg (uIIIIBISLL SF ST Me view1 Has At Value Proof ([] : List MV)))) fun rA =>
 gA rA fun cs1 =>
 oIIBISL .i64 .i64 .i64 cs1 fun By For Has1 View1 Value1 Proof1 =>
 some (.tup [.agg (uIIIIBISLL SF ST Me view1 Has At Value Proof ([] : List MV)), .agg (uIIBISL By For Has1 View1 Value1 Proof1), .b true]))
noncomputable def gR21Enter : Nat → List MV → Option MV := addG 53 (lst2 dR21Enter) gL21Short
theorem soundR21Enter : SoundG Try.prog cx gR21Enter := fnS soundL21Short [] [] 35 [] [] [] [(4, [0, 1, 2, 3, 4, 5])] [(1, ⟨[1, 2, 4, 5], [], [], [(0, [(15, .sc (.k .b))])], []⟩)] [] [] [] Try.func53 (by kernel_rfl) (lst2_of (fun _ _ => by kernel_rfl))
noncomputable def dR07Most (sA : MV) : Option MV :=
 gA sA fun cs =>
 oII .i64 .i64 cs fun F T =>
 some (.i .i64 (IntKind.wrap .i64 ((IntKind.wrap .i64 ((IntKind.wrap .i64 (2 * F)) + (IntKind.wrap .i64 (2 * T)))) + 1)))
noncomputable def gR07Most : Nat → List MV → Option MV := addG 121 (lst1 dR07Most) gR21Enter
theorem soundR07Most : SoundG Try.prog cx gR07Most := fnP soundR21Enter [] 11 [] [] [] Try.func121 (by kernel_rfl) (lst1_of (fun _ => by kernel_rfl))
noncomputable def dR20May (a a1 : MV) : Option MV :=
 gA a fun cs =>
 oII .i64 .i64 cs fun F T =>
 gA a1 fun cs1 =>
 oIIBISL .i64 .i64 .i64 cs1 fun By For Has View Value Proof =>
 bd (
 bd (dR07Right (.agg [.i .i64 F, .i .i64 T])) fun rA =>
 gB rA fun x =>
 ifB (!x) (
 some [.b true]) (
 ifB (decide (By < 0)) (
 some [.b true]) (
 bd (dR07N (.agg [.i .i64 F, .i .i64 T])) fun rA1 =>
 gI .i64 rA1 fun x1 =>
 ifB (decide (x1 ≤ By)) (
 some [.b true]) (
 ifB (decide (For < 1)) (
 some [.b true]) (
 some [.b (decide ((100000 : Int) < For))]))))) fun vs =>
 gC vs fun m8 msA8 =>
 gB m8 fun x2 =>
 gN msA8 <|
 ifB x2 (
 some (.b false)) (
 bd (
 ifB Has (
 ifB (decide (View < 0)) (
 some [.b true]) (
 ifB (decide (For ≤ View)) (
 some [.b true]) (
 ifB (decide ((6000 : Int) < (Value.length : Int))) (
 some [.b true]) (
 ifB (!Has) (
 ifB (!decide (View = 0)) (
 some [.b true]) (
 some [.b (!decide (Value = ([] : List UInt8)))])) (
 some [.b false]))))) (
 ifB (!Has) (
 ifB (!decide (View = 0)) (
 some [.b true]) (
 some [.b (!decide (Value = ([] : List UInt8)))])) (
 some [.b false]))) fun vs1 =>
 gC vs1 fun m9 msA9 =>
 gB m9 fun x3 =>
 gN msA9 <|
 ifB x3 (
 some (.b false)) (
 bd (
 lenN Proof fun len =>
 ifB (decide ((len : Int) = 0)) (
 some [.b true]) (
 bd (dR19Right (.agg [.i .i64 F, .i .i64 T]) (.list Proof)) fun rA2 =>
 gB rA2 fun x4 =>
 ifB x4 (
 idx Proof 0 fun y =>
 gA y fun cs2 =>
 oIIS .i64 .i64 cs2 fun By1 View1 Value1 =>
 some [.b (decide (View1 < For))]) (
 some [.b false]))) fun vs2 =>
 gC vs2 fun m13 msA13 =>
 gB m13 fun x5 =>
 gN msA13 <|
 some (.b x5)))
noncomputable def gR20May : Nat → List MV → Option MV := addG 122 (lst2 dR20May) gR07Most
theorem soundR20May : SoundG Try.prog cx gR20May := fnS soundR07Most [] [] 85 [] [] [] [(1, [0, 1, 2, 3, 4, 5, 6, 7, 8, 9, 10, 11, 12, 13, 14, 15, 16, 17, 18, 19, 20, 21, 22, 23, 24]), (5, [0, 1, 2, 3, 4, 5, 6, 7, 8, 9, 10, 11, 12, 13, 14, 15, 16, 17, 18, 19, 20])] [(5, ⟨[2, 3], [], [], [(0, [(4, .sc (.k .b))])], []⟩), (3, ⟨[2, 3], [], [], [(0, [(64, .sc (.k .b))])], []⟩), (1, ⟨[2, 3], [], [], [(0, [(29, .sc (.k .b))])], []⟩)] [] [] [] Try.func122 (by kernel_rfl) (lst2_of (fun _ _ => by kernel_rfl))
noncomputable def dR20Right (sA view lA : MV) : Option MV :=
 gA sA fun cs =>
 oII .i64 .i64 cs fun F T =>
 gI .i64 view fun view1 =>
 gL lA fun lA1 =>
 bd (
 bd (dR07Right (.agg [.i .i64 F, .i .i64 T])) fun rA =>
 gB rA fun x =>
 ifB (!x) (
 some [.b true]) (
 lenN lA1 fun len =>
 bd (dR07Most (.agg [.i .i64 F, .i .i64 T])) fun rA1 =>
 gI .i64 rA1 fun x1 =>
 some [.b (!decide ((len : Int) = x1))])) fun vs =>
 gC vs fun m2 msA2 =>
 gB m2 fun x2 =>
 gN msA2 <|
 ifB x2 (
 some (.b false)) (
 bd (Loop (fun msA3 =>
 gC msA3 fun m3 msA4 =>
 gI .i64 m3 fun i =>
 gN msA4 <|
 lenN lA1 fun len1 =>
 ifB (decide (i < (len1 : Int))) (
 bd (
 idx lA1 i fun y =>
 gA y fun cs1 =>
 oIIBISL .i64 .i64 .i64 cs1 fun By For Has View Value Proof =>
 bd (dR20May (.agg [.i .i64 F, .i .i64 T]) (.agg (uIIBISL By For Has View Value Proof))) fun rA2 =>
 gB rA2 fun x3 =>
 ifB (!x3) (
 some [.b true]) (
 idx lA1 i fun y1 =>
 gA y1 fun cs2 =>
 oIIBISL .i64 .i64 .i64 cs2 fun By1 For1 Has1 View1 Value1 Proof1 =>
 ifB (!decide (For1 = view1)) (
 some [.b true]) (
 ifB (decide ((0 : Int) < i)) (
 idx lA1 (IntKind.wrap .i64 (i - 1)) fun y2 =>
 gA y2 fun cs3 =>
 oIIBISL .i64 .i64 .i64 cs3 fun By2 For2 Has2 View2 Value2 Proof2 =>
 idx lA1 i fun y3 =>
 gA y3 fun cs4 =>
 oIIBISL .i64 .i64 .i64 cs4 fun By3 For3 Has3 View3 Value3 Proof3 =>
 some [.b (decide (By3 ≤ By2))]) (
 some [.b false])))) fun vs1 =>
 gC vs1 fun m28 msA29 =>
 gB m28 fun x4 =>
 gN msA29 <|
 ifB x4 (
 some (.inr (1, [.b false]))) (
 some (.inl [.i .i64 (IntKind.wrap .i64 (i + 1))]))) (
 some (.inr (2, [])))) [.i .i64 0]) fun p =>
 ifB (Nat.beq p.1 2) (
 gN p.2 <|
 some (.b true)) (
 chk (Nat.beq p.1 1) <|
 gC p.2 fun m29 msA30 =>
 gB m29 fun x5 =>
 gN msA30 <|
 some (.b x5)))
noncomputable def gR20Right : Nat → List MV → Option MV := addG 99 (lst3 dR20Right) gR20May
theorem soundR20Right : SoundG Try.prog cx gR20Right := fnS soundR20May [] [] 58 [] [] [] [(6, [0, 1, 2, 3, 4, 5, 6, 7, 8, 9, 10, 11, 12, 13, 14, 15, 16, 17, 18, 19, 20, 21, 22, 23, 24, 25, 26, 27, 28, 29, 30, 31, 32, 33])] [(6, ⟨[1, 2, 3, 7], [], [], [(0, [(57, .sc (.k .b))])], []⟩), (1, ⟨[1, 2, 3], [], [], [(0, [(17, .sc (.k .b))])], []⟩)] [] [(4, ⟨[1, 2, 3], [], [(7, .sc (.k (.i .i64)))], [(1, [(6, .sc (.k .b))]), (2, [])], []⟩)] [] Try.func99 (by kernel_rfl) (lst3_of (fun _ _ _ => by kernel_rfl))
noncomputable def dR19Of (p : MV) : Option MV :=
 gL p fun p1 =>
 lenN p1 fun len =>
 ifB (decide ((len : Int) = 0)) (
 some (.tup [.i .i64 (-1), .s ([] : List UInt8), .b false])) (
 idx p1 0 fun y =>
 gA y fun cs =>
 oIIS .i64 .i64 cs fun By View Value =>
 idx p1 0 fun y1 =>
 gA y1 fun cs1 =>
 oIIS .i64 .i64 cs1 fun By1 View1 Value1 =>
 some (.tup [.i .i64 View, .s Value1, .b true]))
noncomputable def gR19Of : Nat → List MV → Option MV := addG 98 (lst1 dR19Of) gR20Right
theorem soundR19Of : SoundG Try.prog cx gR19Of := fnS soundR20Right [] [] 16 [] [] [] [(3, [0, 1, 2, 3, 4, 5, 6, 7, 8, 9, 10])] [] [] [] [] Try.func98 (by kernel_rfl) (lst1_of (fun _ => by kernel_rfl))
noncomputable def dR07Vouch (sA : MV) : Option MV :=
 gA sA fun cs =>
 oII .i64 .i64 cs fun F T =>
 some (.i .i64 (IntKind.wrap .i64 ((IntKind.wrap .i64 (F + T)) + 1)))
noncomputable def gR07Vouch : Nat → List MV → Option MV := addG 123 (lst1 dR07Vouch) gR19Of
theorem soundR07Vouch : SoundG Try.prog cx gR07Vouch := fnP soundR19Of [] 9 [] [] [] Try.func123 (by kernel_rfl) (lst1_of (fun _ => by kernel_rfl))
noncomputable def dR20Binds (a a1 : MV) : Option MV :=
 gA a fun cs =>
 oII .i64 .i64 cs fun F T =>
 gL a1 fun a1N1 =>
 bd (Loop (fun msA2 =>
 gC msA2 fun m2 msA3 =>
 gI .i64 m2 fun x =>
 gC msA3 fun m3 msA4 =>
 gS m3 fun x1 =>
 gC msA4 fun m4 msA5 =>
 gI .i64 m4 fun x2 =>
 gN msA5 <|
 lenN a1N1 fun len =>
 ifB (decide (x2 < (len : Int))) (
 idx a1N1 x2 fun y =>
 gA y fun cs1 =>
 oIIBISL .i64 .i64 .i64 cs1 fun By For Has View Value Proof =>
 bd (dR19Of (.list Proof)) fun rA =>
 gT rA fun vs =>
 oISB .i64 vs fun x3 x4 x5 =>
 bd (
 ifB x5 (
 some [.b (decide (x < x3))]) (
 some [.b false])) fun vs1 =>
 gC vs1 fun m14 msA15 =>
 gB m14 fun x6 =>
 gN msA15 <|
 bd (
 ifB x6 (
 some (0, [.i .i64 x3, .s x4])) (
 some (0, [.i .i64 x, .s x1]))) fun p1 =>
 chk (Nat.beq p1.1 0) <|
 gC p1.2 fun m15 msA16 =>
 gI .i64 m15 fun x7 =>
 gC msA16 fun m16 msA17 =>
 gS m16 fun x8 =>
 gN msA17 <|
 some (.inl [.i .i64 x7, .s x8, .i .i64 (IntKind.wrap .i64 (x2 + 1))])) (
 some (.inr (2, [.i .i64 x, .s x1])))) [.i .i64 (-1), .s ([] : List UInt8), .i .i64 0]) fun p =>
 chk (Nat.beq p.1 2) <|
 gC p.2 fun m17 msA18 =>
 gI .i64 m17 fun x9 =>
 gC msA18 fun m18 msA19 =>
 gS m18 fun x10 =>
 gN msA19 <|
 bd (Loop (fun msA20 =>
 gC msA20 fun m19 msA21 =>
 gI .i64 m19 fun x11 =>
 gN msA21 <|
 lenN a1N1 fun len1 =>
 ifB (decide (x11 < (len1 : Int))) (
 bd (Loop (fun msA22 =>
 oII .i64 .i64 msA22 fun x12 x13 =>
 lenN a1N1 fun len2 =>
 ifB (decide (x13 < (len2 : Int))) (
 bd (
 idx a1N1 x13 fun y1 =>
 gA y1 fun cs2 =>
 oIIBISL .i64 .i64 .i64 cs2 fun By1 For1 Has1 View1 Value1 Proof1 =>
 ifB Has1 (
 idx a1N1 x13 fun y2 =>
 gA y2 fun cs3 =>
 oIIBISL .i64 .i64 .i64 cs3 fun By2 For2 Has2 View2 Value2 Proof2 =>
 ifB (decide (x9 < View2)) (
 idx a1N1 x11 fun y3 =>
 gA y3 fun cs4 =>
 oIIBISL .i64 .i64 .i64 cs4 fun By3 For3 Has3 View3 Value3 Proof3 =>
 ifB Has3 (
 idx a1N1 x11 fun y4 =>
 gA y4 fun cs5 =>
 oIIBISL .i64 .i64 .i64 cs5 fun By4 For4 Has4 View4 Value4 Proof4 =>
 ifB (decide (x9 < View4)) (
 idx a1N1 x13 fun y5 =>
 gA y5 fun cs6 =>
 oIIBISL .i64 .i64 .i64 cs6 fun By5 For5 Has5 View5 Value5 Proof5 =>
 idx a1N1 x11 fun y6 =>
 gA y6 fun cs7 =>
 oIIBISL .i64 .i64 .i64 cs7 fun By6 For6 Has6 View6 Value6 Proof6 =>
 some [.b (decide (Value5 = Value6))]) (
 some [.b false])) (
 some [.b false])) (
 some [.b false])) (
 some [.b false])) fun vs2 =>
 gC vs2 fun m58 msA61 =>
 gB m58 fun x14 =>
 gN msA61 <|
 bd (
 ifB x14 (
 some (0, [.i .i64 (IntKind.wrap .i64 (x12 + 1))])) (
 some (0, [.i .i64 x12]))) fun p4 =>
 chk (Nat.beq p4.1 0) <|
 gC p4.2 fun m59 msA62 =>
 gI .i64 m59 fun x15 =>
 gN msA62 <|
 some (.inl [.i .i64 x15, .i .i64 (IntKind.wrap .i64 (x13 + 1))])) (
 some (.inr (6, [.i .i64 x12])))) [.i .i64 0, .i .i64 0]) fun p3 =>
 chk (Nat.beq p3.1 6) <|
 gC p3.2 fun m60 msA63 =>
 gI .i64 m60 fun x16 =>
 gN msA63 <|
 bd (dR07Vouch (.agg [.i .i64 F, .i .i64 T])) fun rA1 =>
 gI .i64 rA1 fun x17 =>
 ifB (decide (x17 ≤ x16)) (
 idx a1N1 x11 fun y7 =>
 gA y7 fun cs8 =>
 oIIBISL .i64 .i64 .i64 cs8 fun By7 For7 Has7 View7 Value7 Proof7 =>
 some (.inr (1, [.s Value7, .b true]))) (
 some (.inl [.i .i64 (IntKind.wrap .i64 (x11 + 1))]))) (
 some (.inr (4, [])))) [.i .i64 0]) fun p2 =>
 ifB (Nat.beq p2.1 4) (
 gN p2.2 <|
 some (.tup [.s x10, .b (decide ((0 : Int) ≤ x9))])) (
 chk (Nat.beq p2.1 1) <|
 gC p2.2 fun m67 msA70 =>
 gS m67 fun x18 =>
 gC msA70 fun m68 msA71 =>
 gB m68 fun x19 =>
 gN msA71 <|
 some (.tup [.s x18, .b x19]))
noncomputable def gR20Binds : Nat → List MV → Option MV := addG 100 (lst2 dR20Binds) gR07Vouch
theorem soundR20Binds : SoundG Try.prog cx gR20Binds := fnS soundR07Vouch [] [] 108 [] [] [] [(15, [0, 1, 2, 3, 4, 5, 6, 7, 8, 9, 10, 11, 12, 13, 14, 15, 16, 17, 18, 19, 20, 21, 22, 23, 24, 25, 26, 27, 28, 29, 30, 31, 32, 33, 34, 35, 36, 37, 38, 39, 40, 41, 42])] [(15, ⟨[1, 2, 6, 7, 12, 13, 14], [], [], [(0, [(93, .sc (.k .b))])], []⟩), (6, ⟨[1, 2, 6, 7, 8, 9, 10, 11], [], [], [(0, [(36, .sc (.k .b))])], []⟩)] [(16, ⟨[1, 2, 6, 7, 12, 14], [], [], [(0, [(13, .sc (.k (.i .i64)))])], []⟩), (7, ⟨[1, 2, 8, 9, 10], [], [], [(0, [(6, .sc (.k (.i .i64))), (7, .sc (.k .s))])], []⟩)] [(13, ⟨[1, 2, 6, 7, 12], [], [(13, .sc (.k (.i .i64))), (14, .sc (.k (.i .i64)))], [(6, [(13, .sc (.k (.i .i64)))])], []⟩), (9, ⟨[1, 2, 6, 7], [], [(12, .sc (.k (.i .i64)))], [(1, [(4, .sc (.k .s)), (5, .sc (.k .b))]), (4, [])], []⟩), (3, ⟨[1, 2], [], [(6, .sc (.k (.i .i64))), (7, .sc (.k .s)), (8, .sc (.k (.i .i64)))], [(2, [(6, .sc (.k (.i .i64))), (7, .sc (.k .s))])], []⟩)] [] Try.func100 (by kernel_rfl) (lst2_of (fun _ _ => by kernel_rfl))
noncomputable def dR20Vouches (sA view lA value : MV) : Option MV :=
 gA sA fun cs =>
 oII .i64 .i64 cs fun F T =>
 gI .i64 view fun view1 =>
 gL lA fun lA1 =>
 gS value fun value1 =>
 bd (dR20Right (.agg [.i .i64 F, .i .i64 T]) (.i .i64 view1) (.list lA1)) fun rA =>
 gB rA fun x =>
 ifB (!x) (
 some (.b false)) (
 bd (dR20Binds (.agg [.i .i64 F, .i .i64 T]) (.list lA1)) fun rA1 =>
 gT rA1 fun vs =>
 gC vs fun m2 msA2 =>
 gS m2 fun x1 =>
 gC msA2 fun m3 msA3 =>
 gB m3 fun x2 =>
 gN msA3 <|
 bd (
 ifB (!x2) (
 some [.b true]) (
 some [.b (decide (x1 = value1))])) fun vs1 =>
 gC vs1 fun m4 msA4 =>
 gB m4 fun x3 =>
 gN msA4 <|
 some (.b x3))
noncomputable def gR20Vouches : Nat → List MV → Option MV := addG 59 (lst4 dR20Vouches) gR20Binds
theorem soundR20Vouches : SoundG Try.prog cx gR20Vouches := fnP soundR20Binds [] 29 [(4, ⟨[3, 9, 10], [], [], [(0, [(8, .sc (.k .b))])], []⟩)] [] [] Try.func59 (by kernel_rfl) (lst4_of (fun _ _ _ _ => by kernel_rfl))
noncomputable def dR21Propose (a view value cert : MV) : Option MV :=
 gA a fun cs =>
 oIIIIBISLL .i64 .i64 .i64 .i64 .i64 cs fun SF ST Me View Has At Value Proof VotesL =>
 gI .i64 view fun view1 =>
 gS value fun value1 =>
 gL cert fun cert1 =>
 bd (
 ifB (decide (view1 = 0)) (
 lenN cert1 fun len =>
 some [.b (decide ((len : Int) = 0))]) (
 some [.b false])) fun vs =>
 gC vs fun m9 msA9 =>
 gB m9 fun free =>
 gN msA9 <|
 bd (
 ifB (!decide (view1 = View)) (
 some [.b true]) (
 ifB Has (
 ifB (decide (At = view1)) (
 some [.b true]) (
 ifB (decide ((6000 : Int) < (value1.length : Int))) (
 some [.b true]) (
 ifB (!free) (
 bd (dR20Vouches (.agg [.i .i64 SF, .i .i64 ST]) (.i .i64 view1) (.list cert1) (.s value1)) fun rA =>
 gB rA fun x =>
 some [.b (!x)]) (
 some [.b false])))) (
 ifB (decide ((6000 : Int) < (value1.length : Int))) (
 some [.b true]) (
 ifB (!free) (
 bd (dR20Vouches (.agg [.i .i64 SF, .i .i64 ST]) (.i .i64 view1) (.list cert1) (.s value1)) fun rA1 =>
 gB rA1 fun x1 =>
 some [.b (!x1)]) (
 some [.b false]))))) fun vs1 =>
 gC vs1 fun m10 msA10 =>
 gB m10 fun x2 =>
 gN msA10 <|
 ifB x2 (
 some (.tup [.agg (uIIIIBISLL SF ST Me View Has At Value Proof VotesL), .agg [.i .i64 0, .i .i64 0, .s ([] : List UInt8)], .b false])) (
 some (.tup [.agg (uIIIIBISLL SF ST Me View true view1 value1 Proof VotesL), .agg [.i .i64 Me, .i .i64 view1, .s value1], .b true]))
noncomputable def gR21Propose : Nat → List MV → Option MV := addG 55 (lst4 dR21Propose) gR20Vouches
theorem soundR21Propose : SoundG Try.prog cx gR21Propose := fnS soundR20Vouches [] [] 64 [] [60] [(7, [4])] [(7, [0, 1, 2, 3, 4, 5, 6, 7, 8])] [(2, ⟨[1, 2, 3, 4, 8, 9, 11], [], [], [(0, [(50, .sc (.k .b))])], []⟩), (1, ⟨[1, 2, 3, 4, 8, 9], [], [], [(0, [(11, .sc (.k .b))])], []⟩)] [] [] [] Try.func55 (by kernel_rfl) (lst4_of (fun _ _ _ _ => by kernel_rfl))
noncomputable def dProofMake (sA t : MV) : Option MV :=
 gA sA fun cs =>
 oII .i64 .i64 cs fun F T =>
 gA t fun cs1 =>
 gC cs1 fun m2 msA2 =>
 gL m2 fun L =>
 gN msA2 <|
 bd (dSizeProof (.agg [.i .i64 F, .i .i64 T])) fun rA =>
 gI .i64 rA fun x =>
 bd (dTallyBest (.agg [.list L]) (.i .i64 x)) fun rA1 =>
 gT rA1 fun vs =>
 oISB .i64 vs fun x1 x2 x3 =>
 ifB (!x3) (
 some (.tup [.list ([] : List MV), .b false])) (
 bd (dTallyVoters (.agg [.list L]) (.i .i64 x1) (.s x2)) fun rA2 =>
 gL rA2 fun x4 =>
 bd (dSizeProof (.agg [.i .i64 F, .i .i64 T])) fun rA3 =>
 gI .i64 rA3 fun x5 =>
 lenN x4 fun len =>
 chk (decide ((0 : Int) ≤ 0 ∧ (0 : Int) ≤ x5 ∧ x5 ≤ (len : Int))) <|
 some (.tup [.list (List.drop (Int.toNat 0) (List.take (Int.toNat x5) x4)), .b true]))
noncomputable def gProofMake : Nat → List MV → Option MV := addG 95 (lst2 dProofMake) gR21Propose
theorem soundProofMake : SoundG Try.prog cx gProofMake := fnS soundR21Propose [] [] 26 [] [] [] [(1, [0, 1, 2, 3, 4, 5, 6, 7, 8, 9, 10]), (4, [0, 1, 2, 4, 3, 5, 6, 7, 8])] [] [] [] [] Try.func95 (by kernel_rfl) (lst2_of (fun _ _ => by kernel_rfl))
noncomputable def dAcceptorHear (a a1 : MV) : Option MV :=
 gA a fun cs =>
 oIIIIBISLL .i64 .i64 .i64 .i64 .i64 cs fun SF ST Me View Has At Value Proof VotesL =>
 gA a1 fun cs1 =>
 oIIS .i64 .i64 cs1 fun By View1 Value1 =>
 bd (
 bd (dSizeN (.agg [.i .i64 SF, .i .i64 ST])) fun rA =>
 gI .i64 rA fun x =>
 ifB (decide (x ≤ By)) (
 some [.b true]) (
 some [.b (!decide (View1 = View))])) fun vs =>
 gC vs fun m12 msA12 =>
 gB m12 fun x1 =>
 gN msA12 <|
 ifB x1 (
 some (.tup [.agg (uIIIIBISLL SF ST Me View Has At Value Proof VotesL), .list ([] : List MV), .b false])) (
 bd (dTallyAdd (.agg [.list VotesL]) (.agg [.i .i64 By, .i .i64 View1, .s Value1])) fun rA1 =>
 gT rA1 fun vs1 =>
 gC vs1 fun m13 msA13 =>
 gA m13 fun cs2 =>
 gC cs2 fun m14 msA14 =>
 gL m14 fun L =>
 gN msA14 <|
 gC msA13 fun m15 msA15 =>
 gB m15 fun x2 =>
 gN msA15 <|
 bd (dProofMake (.agg [.i .i64 SF, .i .i64 ST]) (.agg [.list L])) fun rA2 =>
 gT rA2 fun vs2 =>
 gC vs2 fun m16 msA16 =>
 gL m16 fun x3 =>
 gC msA16 fun m17 msA17 =>
 gB m17 fun x4 =>
 gN msA17 <|
 bd (dProofOf (.list Proof)) fun rA3 =>
 gT rA3 fun vs3 =>
 oISB .i64 vs3 fun x5 x6 x7 =>
 bd (
 bd (dTallyMay (.agg [.i .i64 By, .i .i64 View1, .s Value1])) fun rA4 =>
 gB rA4 fun x8 =>
 ifB (!x8) (
 some [.b true]) (
 ifB (!x4) (
 some [.b true]) (
 some [.b (decide (View ≤ x5))]))) fun vs4 =>
 gC vs4 fun m21 msA21 =>
 gB m21 fun x9 =>
 gN msA21 <|
 ifB x9 (
 some (.tup [.agg (uIIIIBISLL SF ST Me View Has At Value Proof L), .list ([] : List MV), .b false])) (
 some (.tup [.agg (uIIIIBISLL SF ST Me View Has At Value x3 L), .list x3, .b true])))
noncomputable def gAcceptorHear : Nat → List MV → Option MV := addG 56 (lst2 dAcceptorHear) gProofMake
theorem soundAcceptorHear : SoundG Try.prog cx gAcceptorHear := fnS soundProofMake [] [] 67 [] [] [] [(1, [0, 1, 2, 3, 4, 5, 6, 7, 8, 9, 10, 11, 12])] [(6, ⟨[2, 3, 4, 7, 8, 9], [], [], [(0, [(61, .sc (.k .b))])], []⟩), (1, ⟨[2, 3, 4], [], [], [(0, [(24, .sc (.k .b))])], []⟩)] [] [] [] Try.func56 (by kernel_rfl) (lst2_of (fun _ _ => by kernel_rfl))
noncomputable def dR19Make (sA t : MV) : Option MV :=
 gA sA fun cs =>
 oII .i64 .i64 cs fun F T =>
 gA t fun cs1 =>
 gC cs1 fun m2 msA2 =>
 gL m2 fun L =>
 gN msA2 <|
 bd (dR07Proof (.agg [.i .i64 F, .i .i64 T])) fun rA =>
 gI .i64 rA fun x =>
 bd (dR18Best (.agg [.list L]) (.i .i64 x)) fun rA1 =>
 gT rA1 fun vs =>
 oISB .i64 vs fun x1 x2 x3 =>
 ifB (!x3) (
 some (.tup [.list ([] : List MV), .b false])) (
 bd (dR18Voters (.agg [.list L]) (.i .i64 x1) (.s x2)) fun rA2 =>
 gL rA2 fun x4 =>
 lenN x4 fun len =>
 chk (decide ((0 : Int) ≤ 0 ∧ (0 : Int) ≤ x ∧ x ≤ (len : Int))) <|
 some (.tup [.list (List.drop (Int.toNat 0) (List.take (Int.toNat x) x4)), .b true]))
noncomputable def gR19Make : Nat → List MV → Option MV := addG 97 (lst2 dR19Make) gAcceptorHear
theorem soundR19Make : SoundG Try.prog cx gR19Make := fnP soundAcceptorHear [] 27 [] [] [] Try.func97 (by kernel_rfl) (lst2_of (fun _ _ => by kernel_rfl))
noncomputable def dR21Hear (a a1 : MV) : Option MV :=
 gA a fun cs =>
 oIIIIBISLL .i64 .i64 .i64 .i64 .i64 cs fun SF ST Me View Has At Value Proof VotesL =>
 gA a1 fun cs1 =>
 oIIS .i64 .i64 cs1 fun By View1 Value1 =>
 bd (
 bd (dR18May (.agg [.i .i64 By, .i .i64 View1, .s Value1])) fun rA =>
 gB rA fun x =>
 ifB (!x) (
 some [.b true]) (
 bd (dR07N (.agg [.i .i64 SF, .i .i64 ST])) fun rA1 =>
 gI .i64 rA1 fun x1 =>
 ifB (decide (x1 ≤ By)) (
 some [.b true]) (
 some [.b (!decide (View1 = View))]))) fun vs =>
 gC vs fun m12 msA12 =>
 gB m12 fun x2 =>
 gN msA12 <|
 ifB x2 (
 some (.tup [.agg (uIIIIBISLL SF ST Me View Has At Value Proof VotesL), .list ([] : List MV), .b false])) (
 bd (dR18Add (.agg [.list VotesL]) (.agg [.i .i64 By, .i .i64 View1, .s Value1])) fun rA2 =>
 gT rA2 fun vs1 =>
 gC vs1 fun m13 msA13 =>
 gA m13 fun cs2 =>
 gC cs2 fun m14 msA14 =>
 gL m14 fun L =>
 gN msA14 <|
 gC msA13 fun m15 msA15 =>
 gB m15 fun x3 =>
 gN msA15 <|
 bd (dR19Make (.agg [.i .i64 SF, .i .i64 ST]) (.agg [.list L])) fun rA3 =>
 gT rA3 fun vs2 =>
 gC vs2 fun m16 msA16 =>
 gL m16 fun x4 =>
 gC msA16 fun m17 msA17 =>
 gB m17 fun x5 =>
 gN msA17 <|
 bd (dR19Of (.list Proof)) fun rA4 =>
 gT rA4 fun vs3 =>
 oISB .i64 vs3 fun x6 x7 x8 =>
 bd (
 ifB (!x5) (
 some [.b true]) (
 idx x4 0 fun y =>
 gA y fun cs3 =>
 oIIS .i64 .i64 cs3 fun By1 View2 Value2 =>
 some [.b (decide (View2 ≤ x6))])) fun vs4 =>
 gC vs4 fun m24 msA24 =>
 gB m24 fun x9 =>
 gN msA24 <|
 ifB x9 (
 some (.tup [.agg (uIIIIBISLL SF ST Me View Has At Value Proof L), .list ([] : List MV), .b false])) (
 some (.tup [.agg (uIIIIBISLL SF ST Me View Has At Value x4 L), .list x4, .b true])))
noncomputable def gR21Hear : Nat → List MV → Option MV := addG 57 (lst2 dR21Hear) gR19Make
theorem soundR21Hear : SoundG Try.prog cx gR21Hear := fnS soundR19Make [] [] 71 [] [] [] [(1, [0, 1, 2, 3, 4, 5, 6, 7, 8, 9, 10, 11, 12, 13, 14, 15, 16, 17])] [(7, ⟨[2, 4, 9, 10, 11], [], [], [(0, [(65, .sc (.k .b))])], []⟩), (1, ⟨[2, 3, 4], [], [], [(0, [(31, .sc (.k .b))])], []⟩)] [] [] [] Try.func57 (by kernel_rfl) (lst2_of (fun _ _ => by kernel_rfl))
noncomputable def dL21AcceptorTurns (a a1 : MV) : Option MV :=
 gA a fun cs =>
 oIIIIBISLL .i64 .i64 .i64 .i64 .i64 cs fun SF ST Me View Has At Value Proof VotesL =>
 gA a1 fun cs1 =>
 gC cs1 fun m9 msA9 =>
 gI .i64 m9 fun View1 =>
 gC msA9 fun m10 msA10 =>
 gS m10 fun Value1 =>
 gC msA10 fun m11 msA11 =>
 gL m11 fun Cert =>
 oIIS .i64 .i64 msA11 fun VoteBy VoteView VoteValue =>
 bd (
 bd (dL21Few (.agg (uIIIIBISLL SF ST Me View Has At Value Proof VotesL))) fun rA =>
 gB rA fun x =>
 ifB (!x) (
 some [.b true]) (
 bd (dL21Short (.list Cert)) fun rA1 =>
 gB rA1 fun x1 =>
 ifB (!x1) (
 some [.b true]) (
 ifB (decide ((6100 : Int) < (Value1.length : Int))) (
 some [.b true]) (
 ifB (decide ((6100 : Int) < (VoteValue.length : Int))) (
 some [.b true]) (
 bd (dL21Plain (.agg (uIIIIBISLL SF ST Me View Has At Value Proof VotesL))) fun rA2 =>
 gA rA2 fun cs2 =>
 oIIIIBISLL .i64 .i64 .i64 .i64 .i64 cs2 fun SF1 ST1 Me1 View2 Has1 At1 Value2 Proof1 VotesL1 =>
 bd (dR21Right (.agg (uIIIIBISLL SF1 ST1 Me1 View2 Has1 At1 Value2 Proof1 VotesL1))) fun rA3 =>
 gB rA3 fun x2 =>
 some [.b (!x2)]))))) fun vs =>
 gC vs fun m24 msA24 =>
 gB m24 fun x3 =>
 gN msA24 <|
 ifB x3 (
 bd (dL21Alive) fun rA4 =>
 gB rA4 fun x4 =>
 some (.b x4)) (
 bd (dL21Plain (.agg (uIIIIBISLL SF ST Me View Has At Value Proof VotesL))) fun rA5 =>
 gA rA5 fun cs3 =>
 oIIIIBISLL .i64 .i64 .i64 .i64 .i64 cs3 fun SF2 ST2 Me2 View3 Has2 At2 Value3 Proof2 VotesL2 =>
 bd (dAcceptorEnter (.agg (uIIIIBISLL SF ST Me View Has At Value Proof VotesL)) (.i .i64 View1)) fun rA6 =>
 gT rA6 fun vs1 =>
 gC vs1 fun m34 msA34 =>
 gA m34 fun cs4 =>
 oIIIIBISLL .i64 .i64 .i64 .i64 .i64 cs4 fun SF3 ST3 Me3 View4 Has3 At3 Value4 Proof3 VotesL3 =>
 gC msA34 fun m44 msA44 =>
 gA m44 fun cs5 =>
 oIIBISL .i64 .i64 .i64 cs5 fun By For Has4 View5 Value5 Proof4 =>
 gC msA44 fun m51 msA51 =>
 gB m51 fun x5 =>
 gN msA51 <|
 bd (dR21Enter (.agg (uIIIIBISLL SF2 ST2 Me2 View3 Has2 At2 Value3 Proof2 VotesL2)) (.i .i64 View1)) fun rA7 =>
 gT rA7 fun vs2 =>
 gC vs2 fun m52 msA52 =>
 gA m52 fun cs6 =>
 oIIIIBISLL .i64 .i64 .i64 .i64 .i64 cs6 fun SF4 ST4 Me4 View6 Has5 At4 Value6 Proof5 VotesL4 =>
 gC msA52 fun m62 msA62 =>
 gA m62 fun cs7 =>
 oIIBISL .i64 .i64 .i64 cs7 fun By1 For1 Has6 View7 Value7 Proof6 =>
 gC msA62 fun m69 msA69 =>
 gB m69 fun x6 =>
 gN msA69 <|
 bd (
 bd (dL21Plain (.agg (uIIIIBISLL SF3 ST3 Me3 View4 Has3 At3 Value4 Proof3 VotesL3))) fun rA8 =>
 gA rA8 fun cs8 =>
 oIIIIBISLL .i64 .i64 .i64 .i64 .i64 cs8 fun SF5 ST5 Me5 View8 Has7 At5 Value8 Proof7 VotesL5 =>
 bd (dR21Same (.agg (uIIIIBISLL SF5 ST5 Me5 View8 Has7 At5 Value8 Proof7 VotesL5)) (.agg (uIIIIBISLL SF4 ST4 Me4 View6 Has5 At4 Value6 Proof5 VotesL4))) fun rA9 =>
 gB rA9 fun x7 =>
 ifB (!x7) (
 some [.b true]) (
 bd (dR20One (.agg (uIIBISL By For Has4 View5 Value5 Proof4)) (.agg (uIIBISL By1 For1 Has6 View7 Value7 Proof6))) fun rA10 =>
 gB rA10 fun x8 =>
 ifB (!x8) (
 some [.b true]) (
 some [.b (!(decide (x5 = x6)))]))) fun vs3 =>
 gC vs3 fun m79 msA79 =>
 gB m79 fun x9 =>
 gN msA79 <|
 ifB x9 (
 some (.b false)) (
 bd (dAcceptorPropose (.agg (uIIIIBISLL SF ST Me View Has At Value Proof VotesL)) (.i .i64 View1) (.s Value1) (.list Cert)) fun rA11 =>
 gT rA11 fun vs4 =>
 gC vs4 fun m80 msA80 =>
 gA m80 fun cs9 =>
 oIIIIBISLL .i64 .i64 .i64 .i64 .i64 cs9 fun SF6 ST6 Me6 View9 Has8 At6 Value9 Proof8 VotesL6 =>
 gC msA80 fun m90 msA90 =>
 gA m90 fun cs10 =>
 oIIS .i64 .i64 cs10 fun By2 View10 Value10 =>
 gC msA90 fun m94 msA94 =>
 gB m94 fun x10 =>
 gN msA94 <|
 bd (dR21Propose (.agg (uIIIIBISLL SF2 ST2 Me2 View3 Has2 At2 Value3 Proof2 VotesL2)) (.i .i64 View1) (.s Value1) (.list Cert)) fun rA12 =>
 gT rA12 fun vs5 =>
 gC vs5 fun m95 msA95 =>
 gA m95 fun cs11 =>
 oIIIIBISLL .i64 .i64 .i64 .i64 .i64 cs11 fun SF7 ST7 Me7 View11 Has9 At7 Value11 Proof9 VotesL7 =>
 gC msA95 fun m105 msA105 =>
 gA m105 fun cs12 =>
 oIIS .i64 .i64 cs12 fun By3 View12 Value12 =>
 gC msA105 fun m109 msA109 =>
 gB m109 fun x11 =>
 gN msA109 <|
 bd (
 bd (dL21Plain (.agg (uIIIIBISLL SF6 ST6 Me6 View9 Has8 At6 Value9 Proof8 VotesL6))) fun rA13 =>
 gA rA13 fun cs13 =>
 oIIIIBISLL .i64 .i64 .i64 .i64 .i64 cs13 fun SF8 ST8 Me8 View13 Has10 At8 Value13 Proof10 VotesL8 =>
 bd (dR21Same (.agg (uIIIIBISLL SF8 ST8 Me8 View13 Has10 At8 Value13 Proof10 VotesL8)) (.agg (uIIIIBISLL SF7 ST7 Me7 View11 Has9 At7 Value11 Proof9 VotesL7))) fun rA14 =>
 gB rA14 fun x12 =>
 ifB (!x12) (
 some [.b true]) (
 ifB (!((decide (By2 = By3)) && ((decide (View10 = View12)) && (decide (Value10 = Value12))))) (
 some [.b true]) (
 some [.b (!(decide (x10 = x11)))]))) fun vs6 =>
 gC vs6 fun m119 msA119 =>
 gB m119 fun x13 =>
 gN msA119 <|
 ifB x13 (
 some (.b false)) (
 bd (dAcceptorHear (.agg (uIIIIBISLL SF ST Me View Has At Value Proof VotesL)) (.agg [.i .i64 VoteBy, .i .i64 VoteView, .s VoteValue])) fun rA15 =>
 gT rA15 fun vs7 =>
 gC vs7 fun m120 msA120 =>
 gA m120 fun cs14 =>
 oIIIIBISLL .i64 .i64 .i64 .i64 .i64 cs14 fun SF9 ST9 Me9 View14 Has11 At9 Value14 Proof11 VotesL9 =>
 gC msA120 fun m130 msA130 =>
 gL m130 fun x14 =>
 gC msA130 fun m131 msA131 =>
 gB m131 fun x15 =>
 gN msA131 <|
 bd (dR21Hear (.agg (uIIIIBISLL SF2 ST2 Me2 View3 Has2 At2 Value3 Proof2 VotesL2)) (.agg [.i .i64 VoteBy, .i .i64 VoteView, .s VoteValue])) fun rA16 =>
 gT rA16 fun vs8 =>
 gC vs8 fun m132 msA132 =>
 gA m132 fun cs15 =>
 oIIIIBISLL .i64 .i64 .i64 .i64 .i64 cs15 fun SF10 ST10 Me10 View15 Has12 At10 Value15 Proof12 VotesL10 =>
 gC msA132 fun m142 msA142 =>
 gL m142 fun x16 =>
 gC msA142 fun m143 msA143 =>
 gB m143 fun x17 =>
 gN msA143 <|
 bd (
 bd (dL21Alive) fun rA17 =>
 gB rA17 fun x18 =>
 ifB x18 (
 bd (dL21Plain (.agg (uIIIIBISLL SF9 ST9 Me9 View14 Has11 At9 Value14 Proof11 VotesL9))) fun rA18 =>
 gA rA18 fun cs16 =>
 oIIIIBISLL .i64 .i64 .i64 .i64 .i64 cs16 fun SF11 ST11 Me11 View16 Has13 At11 Value16 Proof13 VotesL11 =>
 bd (dR21Same (.agg (uIIIIBISLL SF11 ST11 Me11 View16 Has13 At11 Value16 Proof13 VotesL11)) (.agg (uIIIIBISLL SF10 ST10 Me10 View15 Has12 At10 Value15 Proof12 VotesL10))) fun rA19 =>
 gB rA19 fun x19 =>
 ifB x19 (
 bd (dR18Same (.list x14) (.list x16)) fun rA20 =>
 gB rA20 fun x20 =>
 ifB x20 (
 ifB (decide (x15 = x17)) (
 bd (dL21Plain (.agg (uIIIIBISLL SF ST Me View Has At Value Proof VotesL))) fun rA21 =>
 gA rA21 fun cs17 =>
 oIIIIBISLL .i64 .i64 .i64 .i64 .i64 cs17 fun SF12 ST12 Me12 View17 Has14 At12 Value17 Proof14 VotesL12 =>
 bd (dR21Same (.agg (uIIIIBISLL SF12 ST12 Me12 View17 Has14 At12 Value17 Proof14 VotesL12)) (.agg (uIIIIBISLL SF2 ST2 Me2 View3 Has2 At2 Value3 Proof2 VotesL2))) fun rA22 =>
 gB rA22 fun x21 =>
 some [.b x21]) (
 some [.b false])) (
 some [.b false])) (
 some [.b false])) (
 some [.b false])) fun vs9 =>
 gC vs9 fun m162 msA162 =>
 gB m162 fun x22 =>
 gN msA162 <|
 some (.b x22))))
noncomputable def gL21AcceptorTurns : Nat → List MV → Option MV := addG 9 (lst2 dL21AcceptorTurns) gR21Hear
theorem soundL21AcceptorTurns : SoundG Try.prog cx gL21AcceptorTurns := fnS soundR21Hear [] [] 165 [] [] [] [(6, [0, 2, 1, 3, 4, 5, 6, 7, 8, 9, 10, 11, 12, 13, 14, 15]), (10, [0, 2, 1, 3, 4, 5, 6, 7, 8, 9, 10, 11, 12, 13, 14]), (14, [0, 1, 2, 4, 3, 5, 6, 7, 8, 9, 10, 11, 12, 13, 14, 15, 16, 17, 18, 20, 19, 21, 22, 23])] [(14, ⟨[2, 5, 18, 19, 20, 21, 22, 23], [], [], [(0, [(4, .sc (.k .b))])], []⟩), (10, ⟨[2, 3, 5, 12, 13, 14, 15, 16, 17], [], [], [(0, [(125, .sc (.k .b))])], []⟩), (6, ⟨[2, 3, 5, 6, 7, 8, 9, 10, 11], [], [], [(0, [(86, .sc (.k .b))])], []⟩), (1, ⟨[2, 3], [], [], [(0, [(51, .sc (.k .b))])], []⟩)] [] [] [] Try.func9 (by kernel_rfl) (lst2_of (fun _ _ => by kernel_rfl))
end Dn.S
