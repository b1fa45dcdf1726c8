import Derived.Test.YteakdlhhamgfbaaDoorDnYTab
import Derived.Test.YteakdlhhamgfbaaDoorDnC
import Derived.Test.YteakdlhhamgfbaaDoorDnD
import Derived.Test.YteakdlhhamgfbaaDoorDnYT
import Derived.KernelRfl
import Derived.Test.YteakdlhhamgfbaaDoorProg
/-
  The functions, on plain values, and their contracts. Conditions: none.
-/
open Go Dn Go.Proofs
set_option linter.unusedVariables false
set_option linter.unusedSimpArgs false
set_option maxRecDepth 100000
namespace Dn.S
theorem tab_ok : TIok Tryd.prog (lookT tiTab) := tabB_ok (by kernel_rfl)
theorem eq_ok : EqOK Tryd.prog (lookT tiTab) := eqTabB_ok (by kernel_rfl)
theorem mix_ok : Tryd.prog.follows .mixedOrders = true := by kernel_rfl
def lookH : List (Nat × Hint) → Nat → Hint
  | [], _ => default
  | (k, s) :: r, t => bif Nat.beq k t then s else lookH r t
def lookL : List (Nat × List Nat) → Nat → List Nat
  | [], _ => []
  | (k, s) :: r, t => bif Nat.beq k t then s else lookL r t
def lookN : List (Nat × Nat) → Nat → Nat
  | [], _ => 0
  | (k, s) :: r, t => bif Nat.beq k t then s else lookN r t
def kk (n : Nat) : Nat := n
def gv (n : Nat) : Bool := nmem [101, 104, 89] n
def frs (n : Nat) : Bool := nmem [87, 88, 101, 102, 104, 106] n
def ftyOf : List (Nat × Nat) := [(87, 48), (88, 48), (101, 92), (102, 92), (104, 92), (106, 9)]
def lookF : List (Nat × FloatKind) → Nat → Option FloatKind
  | [], _ => none
  | (k, s) :: r, t => bif Nat.beq k t then some s else lookF r t
def fkTab : List (Nat × FloatKind) := []
theorem fk_ok : ∀ t k, lookF fkTab t = some k → Tryd.prog.underlying t = some (.float k) := by
  intro t k h
  cases h
def mtTab : List (Nat × (Nat × Bool)) := [(133, (48, true))]
def lookG : List (Nat × (Nat × List LK)) → Nat → Option (Nat × List LK)
  | [], _ => none
  | (k, s) :: r, t => bif Nat.beq k t then some s else lookG r t
def sigTab : List (Nat × (Nat × List LK)) := [(89, (2, [.own 2000000 53 false]))]
def dl (n : Nat) : Bool := nmem [88] n
def cx : Ctx := ⟨lookT tiTab, kk, fun _ _ => none, gv, frs, lookN ftyOf, lookG sigTab, [], 0, [], [], fun _ => [], lookF fkTab, lookM mtTab, fun _ => [], fun _ => default, fun _ => default, fun _ => default, dl⟩
theorem mt_ok : MapTys Tryd.prog cx := mapTabB_ok (l := mtTab) (by kernel_rfl) (fun _ _ h => h)
abbrev sigK89 : List LK := [.own 2000000 53 false]
def tiAt (t : Nat) : TI := match lookT tiTab t with | some I => I | none => ⟨false, 0, 0, [], [], [], [], 0, []⟩
theorem tv9 : cx.tv 9 = some (tiAt 9) := by kernel_rfl
theorem tv33 : cx.tv 33 = some (tiAt 33) := by kernel_rfl
theorem tv48 : cx.tv 48 = some (tiAt 48) := by kernel_rfl
theorem dsem88 : DelSem Tryd.prog cx 88 48 := by
  have hE : cx.tv 48 = some (tiAt 48) := by kernel_rfl
  refine del_sem (P := Tryd.prog) (f := 88) (fi := 121) (t := 33) (ti := 3) (tb := 4) (fu := 128) (el := 48) (fn := Tryd.f88) (fni := Tryd.f121) (r := (fun k => (([0, 1, 2, 3, 4, 5, 7, 8, 9, 10, 6, 11, 12] : List Nat)[k]?).getD 0)) (ri := (fun k => (([0, 1, 2, 3, 4, 5, 6, 7] : List Nat)[k]?).getD 0)) (o := opAt Tryd.f88 noOp) (oi := opAt Tryd.f121 noOp) ⟨Tryd.func88, by kernel_rfl, by kernel_rfl, by kernel_rfl, by kernel_rfl, ?_, by kernel_rfl⟩ ⟨Tryd.func121, by kernel_rfl, by kernel_rfl, by kernel_rfl, by kernel_rfl, ?_, by kernel_rfl⟩ tab_ok hE (by kernel_rfl) (Nat.le_of_ble_eq_true (by kernel_rfl))
  · exact ⟨⟨by kernel_rfl, by kernel_rfl, by kernel_rfl⟩, ⟨by kernel_rfl, by kernel_rfl, by kernel_rfl⟩, ⟨by kernel_rfl, by kernel_rfl, by kernel_rfl⟩, ⟨by kernel_rfl, by kernel_rfl, by kernel_rfl⟩, ⟨by kernel_rfl, by kernel_rfl, by kernel_rfl⟩, ⟨by kernel_rfl, by kernel_rfl, by kernel_rfl⟩, ⟨by kernel_rfl, by kernel_rfl, by kernel_rfl⟩, ⟨by kernel_rfl, by kernel_rfl, by kernel_rfl⟩, ⟨by kernel_rfl, by kernel_rfl, by kernel_rfl⟩, ⟨by kernel_rfl, by kernel_rfl, by kernel_rfl⟩, ⟨by kernel_rfl, by kernel_rfl, by kernel_rfl⟩, ⟨by kernel_rfl, by kernel_rfl, by kernel_rfl⟩, ⟨by kernel_rfl, by kernel_rfl, by kernel_rfl⟩, ⟨by kernel_rfl, by kernel_rfl, by kernel_rfl⟩, ⟨by kernel_rfl, by kernel_rfl, by kernel_rfl⟩, ⟨by kernel_rfl, by kernel_rfl, by kernel_rfl⟩, ⟨by kernel_rfl, by kernel_rfl, by kernel_rfl⟩, ⟨by kernel_rfl, by kernel_rfl, by kernel_rfl⟩, ⟨by kernel_rfl, by kernel_rfl, by kernel_rfl⟩, ⟨by kernel_rfl, by kernel_rfl, by kernel_rfl⟩, ⟨by kernel_rfl, by kernel_rfl, by kernel_rfl⟩, ⟨by kernel_rfl, by kernel_rfl, by kernel_rfl⟩, ⟨by kernel_rfl, by kernel_rfl, by kernel_rfl⟩, ⟨by kernel_rfl, by kernel_rfl, by kernel_rfl⟩, ⟨by kernel_rfl, by kernel_rfl, by kernel_rfl⟩, ⟨by kernel_rfl, by kernel_rfl, by kernel_rfl⟩, ⟨by kernel_rfl, by kernel_rfl, by kernel_rfl⟩, ⟨by kernel_rfl, by kernel_rfl, by kernel_rfl⟩, ⟨by kernel_rfl, by kernel_rfl, by kernel_rfl⟩, ⟨by kernel_rfl, by kernel_rfl, by kernel_rfl⟩, ⟨by kernel_rfl, by kernel_rfl, by kernel_rfl⟩, ⟨by kernel_rfl, by kernel_rfl, by kernel_rfl⟩, ⟨by kernel_rfl, by kernel_rfl, by kernel_rfl⟩, ⟨by kernel_rfl, by kernel_rfl, by kernel_rfl⟩, ⟨by kernel_rfl, by kernel_rfl, by kernel_rfl⟩, ⟨by kernel_rfl, by kernel_rfl, by kernel_rfl⟩, ⟨by kernel_rfl, by kernel_rfl, by kernel_rfl⟩, ⟨by kernel_rfl, by kernel_rfl, by kernel_rfl⟩, ⟨by kernel_rfl, by kernel_rfl, by kernel_rfl⟩, ⟨by kernel_rfl, by kernel_rfl, by kernel_rfl⟩, ⟨by kernel_rfl, by kernel_rfl, by kernel_rfl⟩, ⟨by kernel_rfl, by kernel_rfl, by kernel_rfl⟩, ⟨by kernel_rfl, by kernel_rfl, by kernel_rfl⟩, ⟨by kernel_rfl, by kernel_rfl, by kernel_rfl⟩, ⟨by kernel_rfl, by kernel_rfl, by kernel_rfl⟩⟩
  · exact ⟨⟨by kernel_rfl, by kernel_rfl, by kernel_rfl⟩, ⟨by kernel_rfl, by kernel_rfl, by kernel_rfl⟩, ⟨by kernel_rfl, by kernel_rfl, by kernel_rfl⟩, ⟨by kernel_rfl, by kernel_rfl, by kernel_rfl⟩, ⟨by kernel_rfl, by kernel_rfl, by kernel_rfl⟩, ⟨by kernel_rfl, by kernel_rfl, by kernel_rfl⟩, ⟨by kernel_rfl, by kernel_rfl, by kernel_rfl⟩, ⟨by kernel_rfl, by kernel_rfl, by kernel_rfl⟩, ⟨by kernel_rfl, by kernel_rfl, by kernel_rfl⟩, ⟨by kernel_rfl, by kernel_rfl, by kernel_rfl⟩, ⟨by kernel_rfl, by kernel_rfl, by kernel_rfl⟩, ⟨by kernel_rfl, by kernel_rfl, by kernel_rfl⟩, ⟨by kernel_rfl, by kernel_rfl, by kernel_rfl⟩, ⟨by kernel_rfl, by kernel_rfl, by kernel_rfl⟩, ⟨by kernel_rfl, by kernel_rfl, by kernel_rfl⟩, ⟨by kernel_rfl, by kernel_rfl, by kernel_rfl⟩, ⟨by kernel_rfl, by kernel_rfl, by kernel_rfl⟩, ⟨by kernel_rfl, by kernel_rfl, by kernel_rfl⟩⟩
theorem dels_ok : DelsOK Tryd.prog cx := by
  intro n hn
  unfold cx dl nmem at hn
  cases hb88 : Nat.beq 88 n with
  | true =>
    have := Nat.eq_of_beq_eq_true hb88
    subst this
    exact dsem88
  | false =>
  simp only [hb88, cond_false] at hn
  try unfold nmem at hn
  cases hn
def lays160_ren : Go.Shelf.Ren := ⟨fun | 160 => 80 | 232 => 112 | 231 => 111 | 227 => 113 | 234 => 115 | 233 => 114 | 236 => 117 | 235 => 116 | 228 => 134 | 271 => 136 | 151 => 83 | 197 => 135 | 120 => 150 | 152 => 119 | 260 => 149 | 137 => 138 | 119 => 139 | 224 => 140 | 225 => 141 | 217 => 151 | 266 => 156 | n => n, fun | 9 => 9 | 4 => 4 | 3 => 3 | 5 => 5 | 117 => 156 | 116 => 155 | 0 => 0 | 124 => 159 | 21 => 21 | 105 => 174 | 46 => 178 | 119 => 182 | 139 => 185 | 138 => 184 | n => n, fun | 3 => 1 | 4 => 2 | n => n⟩
theorem lays160 : Go.Proofs.Lays.n160 Tryd.prog lays160_ren := {
  mixed := by kernel_rfl
  f119 := Tryd.func139.trans (congrArg some (by kernel_rfl))
  f120 := Tryd.func150.trans (congrArg some (by kernel_rfl))
  f137 := Tryd.func138.trans (congrArg some (by kernel_rfl))
  f151 := Tryd.func83.trans (congrArg some (by kernel_rfl))
  f152 := Tryd.func119.trans (congrArg some (by kernel_rfl))
  f160 := Tryd.func80.trans (congrArg some (by kernel_rfl))
  f197 := Tryd.func135.trans (congrArg some (by kernel_rfl))
  f217 := Tryd.func151.trans (congrArg some (by kernel_rfl))
  f224 := Tryd.func140.trans (congrArg some (by kernel_rfl))
  f225 := Tryd.func141.trans (congrArg some (by kernel_rfl))
  f227 := Tryd.func113.trans (congrArg some (by kernel_rfl))
  f228 := Tryd.func134.trans (congrArg some (by kernel_rfl))
  f231 := Tryd.func111.trans (congrArg some (by kernel_rfl))
  f232 := Tryd.func112.trans (congrArg some (by kernel_rfl))
  f233 := Tryd.func114.trans (congrArg some (by kernel_rfl))
  f234 := Tryd.func115.trans (congrArg some (by kernel_rfl))
  f235 := Tryd.func116.trans (congrArg some (by kernel_rfl))
  f236 := Tryd.func117.trans (congrArg some (by kernel_rfl))
  f260 := Tryd.func149.trans (congrArg some (by kernel_rfl))
  f266 := Tryd.func156.trans (congrArg some (by kernel_rfl))
  f271 := Tryd.func136.trans (congrArg some (by kernel_rfl))
  t0 := Tryd.underlying0
  a0 := Tryd.isAgg0
  z0 := Tryd.sizeOf0
  v0 := Tryd.zeroValue0
  t3 := Tryd.underlying3
  a3 := Tryd.isAgg3
  z3 := Tryd.sizeOf3
  v3 := Tryd.zeroValue3
  t4 := Tryd.underlying4
  a4 := Tryd.isAgg4
  z4 := Tryd.sizeOf4
  v4 := Tryd.zeroValue4
  t5 := Tryd.underlying5
  a5 := Tryd.isAgg5
  z5 := Tryd.sizeOf5
  v5 := Tryd.zeroValue5
  t9 := Tryd.underlying9
  a9 := Tryd.isAgg9
  z9 := Tryd.sizeOf9
  v9 := Tryd.zeroValue9
  t21 := Tryd.underlying21
  a21 := Tryd.isAgg21
  z21 := Tryd.sizeOf21
  v21 := Tryd.zeroValue21
  t46 := Tryd.underlying178
  a46 := Tryd.isAgg178
  z46 := Tryd.sizeOf178
  v46 := Tryd.zeroValue178
  t105 := Tryd.underlying174
  a105 := Tryd.isAgg174
  z105 := Tryd.sizeOf174
  v105 := Tryd.zeroValue174
  t116 := Tryd.underlying155
  a116 := Tryd.isAgg155
  z116 := Tryd.sizeOf155
  t117 := Tryd.underlying156
  a117 := Tryd.isAgg156
  z117 := Tryd.sizeOf156
  v117 := Tryd.zeroValue156
  t119 := Tryd.underlying182
  a119 := Tryd.isAgg182
  z119 := Tryd.sizeOf182
  t124 := Tryd.underlying159
  a124 := Tryd.isAgg159
  z124 := Tryd.sizeOf159
  v124 := Tryd.zeroValue159
  t138 := Tryd.underlying184
  a138 := Tryd.isAgg184
  z138 := Tryd.sizeOf184
  v138 := Tryd.zeroValue184
  t139 := Tryd.underlying185
  a139 := Tryd.isAgg185
  z139 := Tryd.sizeOf185
  v139 := Tryd.zeroValue185
  g3 := by kernel_rfl
  g4 := by kernel_rfl }
def lays151_ren : Go.Shelf.Ren := ⟨fun | 151 => 83 | 152 => 119 | 137 => 138 | 119 => 139 | 224 => 140 | 225 => 141 | 217 => 151 | 266 => 156 | n => n, fun | 9 => 9 | 21 => 21 | 4 => 4 | 3 => 3 | 5 => 5 | 0 => 0 | 46 => 178 | n => n, fun | n => n⟩
theorem lays151 : Go.Proofs.Lays.n151 Tryd.prog lays151_ren := {
  mixed := by kernel_rfl
  f119 := Tryd.func139.trans (congrArg some (by kernel_rfl))
  f137 := Tryd.func138.trans (congrArg some (by kernel_rfl))
  f151 := Tryd.func83.trans (congrArg some (by kernel_rfl))
  f152 := Tryd.func119.trans (congrArg some (by kernel_rfl))
  f217 := Tryd.func151.trans (congrArg some (by kernel_rfl))
  f224 := Tryd.func140.trans (congrArg some (by kernel_rfl))
  f225 := Tryd.func141.trans (congrArg some (by kernel_rfl))
  f266 := Tryd.func156.trans (congrArg some (by kernel_rfl))
  t0 := Tryd.underlying0
  a0 := Tryd.isAgg0
  z0 := Tryd.sizeOf0
  v0 := Tryd.zeroValue0
  t3 := Tryd.underlying3
  a3 := Tryd.isAgg3
  z3 := Tryd.sizeOf3
  v3 := Tryd.zeroValue3
  t4 := Tryd.underlying4
  a4 := Tryd.isAgg4
  z4 := Tryd.sizeOf4
  v4 := Tryd.zeroValue4
  t5 := Tryd.underlying5
  a5 := Tryd.isAgg5
  z5 := Tryd.sizeOf5
  v5 := Tryd.zeroValue5
  t9 := Tryd.underlying9
  a9 := Tryd.isAgg9
  z9 := Tryd.sizeOf9
  v9 := Tryd.zeroValue9
  t21 := Tryd.underlying21
  a21 := Tryd.isAgg21
  z21 := Tryd.sizeOf21
  v21 := Tryd.zeroValue21
  t46 := Tryd.underlying178
  a46 := Tryd.isAgg178
  z46 := Tryd.sizeOf178
  v46 := Tryd.zeroValue178 }
def lays146_ren : Go.Shelf.Ren := ⟨fun | 146 => 106 | 221 => 131 | 268 => 146 | 138 => 147 | 143 => 148 | 195 => 153 | 197 => 135 | 218 => 154 | 219 => 155 | 260 => 149 | 217 => 151 | 225 => 141 | 224 => 140 | 267 => 157 | 266 => 156 | 314 => 158 | n => n, fun | 9 => 9 | 31 => 23 | 3 => 3 | 4 => 4 | 0 => 0 | 105 => 174 | 21 => 21 | 5 => 5 | 46 => 178 | 119 => 182 | 139 => 185 | 138 => 184 | 146 => 171 | 51 => 170 | n => n, fun | 1 => 0 | 3 => 1 | 4 => 2 | n => n⟩
theorem lays146 : Go.Proofs.Lays.n146 Tryd.prog lays146_ren := {
  mixed := by kernel_rfl
  f138 := Tryd.func147.trans (congrArg some (by kernel_rfl))
  f143 := Tryd.func148.trans (congrArg some (by kernel_rfl))
  f146 := Tryd.func106.trans (congrArg some (by kernel_rfl))
  f195 := Tryd.func153.trans (congrArg some (by kernel_rfl))
  f197 := Tryd.func135.trans (congrArg some (by kernel_rfl))
  f217 := Tryd.func151.trans (congrArg some (by kernel_rfl))
  f218 := Tryd.func154.trans (congrArg some (by kernel_rfl))
  f219 := Tryd.func155.trans (congrArg some (by kernel_rfl))
  f221 := Tryd.func131.trans (congrArg some (by kernel_rfl))
  f224 := Tryd.func140.trans (congrArg some (by kernel_rfl))
  f225 := Tryd.func141.trans (congrArg some (by kernel_rfl))
  f260 := Tryd.func149.trans (congrArg some (by kernel_rfl))
  f266 := Tryd.func156.trans (congrArg some (by kernel_rfl))
  f267 := Tryd.func157.trans (congrArg some (by kernel_rfl))
  f268 := Tryd.func146.trans (congrArg some (by kernel_rfl))
  f314 := Tryd.func158.trans (congrArg some (by kernel_rfl))
  t0 := Tryd.underlying0
  a0 := Tryd.isAgg0
  z0 := Tryd.sizeOf0
  v0 := Tryd.zeroValue0
  t3 := Tryd.underlying3
  a3 := Tryd.isAgg3
  z3 := Tryd.sizeOf3
  v3 := Tryd.zeroValue3
  t4 := Tryd.underlying4
  a4 := Tryd.isAgg4
  z4 := Tryd.sizeOf4
  v4 := Tryd.zeroValue4
  t5 := Tryd.underlying5
  a5 := Tryd.isAgg5
  z5 := Tryd.sizeOf5
  v5 := Tryd.zeroValue5
  t9 := Tryd.underlying9
  a9 := Tryd.isAgg9
  z9 := Tryd.sizeOf9
  v9 := Tryd.zeroValue9
  t21 := Tryd.underlying21
  a21 := Tryd.isAgg21
  z21 := Tryd.sizeOf21
  v21 := Tryd.zeroValue21
  t31 := Tryd.underlying23
  a31 := Tryd.isAgg23
  z31 := Tryd.sizeOf23
  v31 := Tryd.zeroValue23
  t46 := Tryd.underlying178
  a46 := Tryd.isAgg178
  z46 := Tryd.sizeOf178
  v46 := Tryd.zeroValue178
  t51 := Tryd.underlying170
  a51 := Tryd.isAgg170
  z51 := Tryd.sizeOf170
  v51 := Tryd.zeroValue170
  t105 := Tryd.underlying174
  a105 := Tryd.isAgg174
  z105 := Tryd.sizeOf174
  v105 := Tryd.zeroValue174
  t119 := Tryd.underlying182
  a119 := Tryd.isAgg182
  z119 := Tryd.sizeOf182
  t138 := Tryd.underlying184
  a138 := Tryd.isAgg184
  z138 := Tryd.sizeOf184
  v138 := Tryd.zeroValue184
  t139 := Tryd.underlying185
  a139 := Tryd.isAgg185
  z139 := Tryd.sizeOf185
  v139 := Tryd.zeroValue185
  t146 := Tryd.underlying171
  a146 := Tryd.isAgg171
  z146 := Tryd.sizeOf171
  v146 := Tryd.zeroValue171
  g1 := by kernel_rfl
  g3 := by kernel_rfl
  g4 := by kernel_rfl }
theorem hand80 {g : Nat → List MV → Option MV} (h : SoundG Tryd.prog cx g) : SoundG Tryd.prog cx (addG 80 trimF g) := h.add1 (fun _ => rfl) (fun ms r hr => trim_ok (P := Tryd.prog) (ρ := lays160_ren) (c := cx) lays160 (by kernel_rfl) (by kernel_rfl) hr)
theorem hand83 {g : Nat → List MV → Option MV} (h : SoundG Tryd.prog cx g) : SoundG Tryd.prog cx (addG 83 hasRuneF g) := h.add1 (fun _ => rfl) (fun ms r hr => hasRune_ok (P := Tryd.prog) (ρ := lays151_ren) (c := cx) lays151 (by kernel_rfl) hr)
theorem hand106 {g : Nat → List MV → Option MV} (h : SoundG Tryd.prog cx g) : SoundG Tryd.prog cx (addG 106 splitF g) := h.add1 (fun _ => rfl) (fun ms r hr => split_ok (P := Tryd.prog) (ρ := lays146_ren) (c := cx) lays146 (by kernel_rfl) (by kernel_rfl) (by kernel_rfl) tv9 (by kernel_rfl) hr)
theorem hand87 {g : Nat → List MV → Option MV} (h : SoundG Tryd.prog cx g) : SoundG Tryd.prog cx (addG 87 (cloneF 3 32) g) := h.add1 (fun _ => rfl) (fun ms r hr => by
  obtain ⟨xs, rfl, rfl, h1, h2⟩ := cloneF_some hr
  exact clone_ok (P := Tryd.prog) (c := cx) (f := 87) (fn := Tryd.f87) (t := 33) (I := tiAt 33) (E := tiAt 48) (i0 := 0) (i1 := 1) (i2 := 2) (i3 := 3) (oA := opAt Tryd.f87 noOp 0) (oB := opAt Tryd.f87 noOp 1) (oC := opAt Tryd.f87 noOp 2) (oD := opAt Tryd.f87 noOp 3) (oE := opAt Tryd.f87 noOp 4) (oF := opAt Tryd.f87 noOp 5) (oG := opAt Tryd.f87 noOp 6) (oH := opAt Tryd.f87 noOp 7) tab_ok tv33 (by kernel_rfl) tv48 (Nat.le_of_ble_eq_true (by kernel_rfl)) (by kernel_rfl) (by kernel_rfl) Tryd.func87 (by kernel_rfl) (by kernel_rfl) (by kernel_rfl) (by kernel_rfl)
    ⟨by kernel_rfl, by kernel_rfl, by kernel_rfl⟩ ⟨by kernel_rfl, by kernel_rfl, by kernel_rfl⟩ ⟨by kernel_rfl, by kernel_rfl, by kernel_rfl⟩ ⟨by kernel_rfl, by kernel_rfl, by kernel_rfl⟩ ⟨by kernel_rfl, by kernel_rfl, by kernel_rfl⟩ ⟨by kernel_rfl, by kernel_rfl, by kernel_rfl⟩ ⟨by kernel_rfl, by kernel_rfl, by kernel_rfl⟩ ⟨by kernel_rfl, by kernel_rfl, by kernel_rfl⟩ (by rw [show (tiAt 48).size = 3 by kernel_rfl]; exact h1) (by rw [show (tiAt 48).bytes = 32 by kernel_rfl]; exact h2))
noncomputable def H80 : Nat → List MV → Option MV := addG 80 trimF (fun _ _ => none)
theorem soundH80 : SoundG Tryd.prog cx H80 := hand80 (SoundG.none _ _)
noncomputable def H83 : Nat → List MV → Option MV := addG 83 hasRuneF H80
theorem soundH83 : SoundG Tryd.prog cx H83 := hand83 soundH80
noncomputable def H87 : Nat → List MV → Option MV := addG 87 (cloneF 3 32) H83
theorem soundH87 : SoundG Tryd.prog cx H87 := hand87 soundH83
noncomputable def H106 : Nat → List MV → Option MV := addG 106 splitF H87
theorem soundH106 : SoundG Tryd.prog cx H106 := hand106 soundH87

noncomputable def cxStringsliteHasPrefix : Ctx := ⟨lookT tiTab, kk, H106, gv, frs, lookN ftyOf, lookG sigTab, [], 18, [], [], lookL [], lookF fkTab, lookM mtTab, lookL [], lookH [(1, ⟨[0, 1], [], [], [(0, [(4, .sc (.k .b))])], []⟩)], lookH [], lookH [], dl⟩
noncomputable def dStringsliteHasPrefix (sA prefixA : MV) : Option MV :=
 gS sA fun sA1 =>
 gS prefixA fun prefixA1 =>
 bd (
 ifB (decide ((prefixA1.length : Int) ≤ (sA1.length : Int))) (
 chk (decide ((0 : Int) ≤ 0 ∧ (0 : Int) ≤ (prefixA1.length : Int) ∧ (prefixA1.length : Int) ≤ (sA1.length : Int))) <|
 some [.b (decide ((List.drop (Int.toNat 0) (List.take (Int.toNat (prefixA1.length : Int)) sA1)) = prefixA1))]) (
 some [.b false])) fun vs =>
 gC vs fun m msA =>
 gB m fun x =>
 gN msA <|
 some (.b x)
theorem linkStringsliteHasPrefix (sA prefixA : MV) : bodyK cxStringsliteHasPrefix [] none Tryd.f145 [sA, prefixA] = dStringsliteHasPrefix sA prefixA := by kernel_rfl
noncomputable def gStringsliteHasPrefix : Nat → List MV → Option MV := addG 145 (lst2 dStringsliteHasPrefix) H106
theorem soundStringsliteHasPrefix : SoundG Tryd.prog cx gStringsliteHasPrefix :=
  soundH106.fn (c' := cxStringsliteHasPrefix) (caps := []) ⟨rfl, rfl, rfl, rfl, rfl, rfl, rfl, rfl, rfl⟩ rfl tab_ok eq_ok fk_ok mt_ok mix_ok dels_ok Tryd.func145 (by kernel_rfl) (fun _ => rfl) (lst2_of linkStringsliteHasPrefix)

noncomputable def cxStringsliteCutPrefix : Ctx := ⟨lookT tiTab, kk, gStringsliteHasPrefix, gv, frs, lookN ftyOf, lookG sigTab, [], 15, [], [], lookL [], lookF fkTab, lookM mtTab, lookL [], lookH [], lookH [], lookH [], dl⟩
noncomputable def dStringsliteCutPrefix (sA prefixA : MV) : Option MV :=
 gS sA fun sA1 =>
 gS prefixA fun prefixA1 =>
 bd (dStringsliteHasPrefix (.s sA1) (.s prefixA1)) fun rA =>
 gB rA fun x =>
 ifB (!x) (
 some (.tup [.s sA1, .b false])) (
 chk (decide ((0 : Int) ≤ (prefixA1.length : Int) ∧ (prefixA1.length : Int) ≤ (sA1.length : Int) ∧ (sA1.length : Int) ≤ (sA1.length : Int))) <|
 some (.tup [.s (List.drop (Int.toNat (prefixA1.length : Int)) (List.take (Int.toNat (sA1.length : Int)) sA1)), .b true]))
theorem linkStringsliteCutPrefix (sA prefixA : MV) : bodyK cxStringsliteCutPrefix [] none Tryd.f130 [sA, prefixA] = dStringsliteCutPrefix sA prefixA := by kernel_rfl
noncomputable def gStringsliteCutPrefix : Nat → List MV → Option MV := addG 130 (lst2 dStringsliteCutPrefix) gStringsliteHasPrefix
theorem soundStringsliteCutPrefix : SoundG Tryd.prog cx gStringsliteCutPrefix :=
  soundStringsliteHasPrefix.fn (c' := cxStringsliteCutPrefix) (caps := []) ⟨rfl, rfl, rfl, rfl, rfl, rfl, rfl, rfl, rfl⟩ rfl tab_ok eq_ok fk_ok mt_ok mix_ok dels_ok Tryd.func130 (by kernel_rfl) (fun _ => rfl) (lst2_of linkStringsliteCutPrefix)

noncomputable def cxStringsCutPrefix : Ctx := ⟨lookT tiTab, kk, gStringsliteCutPrefix, gv, frs, lookN ftyOf, lookG sigTab, [], 11, [], [], lookL [], lookF fkTab, lookM mtTab, lookL [], lookH [], lookH [], lookH [], dl⟩
noncomputable def dStringsCutPrefix (sA prefixA : MV) : Option MV :=
 gS sA fun sA1 =>
 gS prefixA fun prefixA1 =>
 bd (dStringsliteCutPrefix (.s sA1) (.s prefixA1)) fun rA =>
 gT rA fun vs =>
 gC vs fun m msA =>
 gS m fun x =>
 gC msA fun m1 msA1 =>
 gB m1 fun x1 =>
 gN msA1 <|
 some (.tup [.s x, .b x1])
theorem linkStringsCutPrefix (sA prefixA : MV) : bodyK cxStringsCutPrefix [] none Tryd.f105 [sA, prefixA] = dStringsCutPrefix sA prefixA := by kernel_rfl
noncomputable def gStringsCutPrefix : Nat → List MV → Option MV := addG 105 (lst2 dStringsCutPrefix) gStringsliteCutPrefix
theorem soundStringsCutPrefix : SoundG Tryd.prog cx gStringsCutPrefix :=
  soundStringsliteCutPrefix.fn (c' := cxStringsCutPrefix) (caps := []) ⟨rfl, rfl, rfl, rfl, rfl, rfl, rfl, rfl, rfl⟩ rfl tab_ok eq_ok fk_ok mt_ok mix_ok dels_ok Tryd.func105 (by kernel_rfl) (fun _ => rfl) (lst2_of linkStringsCutPrefix)

noncomputable def cxPathIsNameF1 : Ctx := ⟨lookT tiTab, kk, gStringsCutPrefix, gv, frs, lookN ftyOf, lookG sigTab, [], 6, [], [], lookL [], lookF fkTab, lookM mtTab, lookL [], lookH [], lookH [], lookH [], dl⟩
noncomputable def dPathIsNameF1 (c : MV) : Option MV :=
 gI .i32 c fun c1 =>
 bd (hasRuneF [.s ([97, 98, 99, 100, 101, 102, 103, 104, 105, 106, 107, 108, 109, 110, 111, 112, 113, 114, 115, 116, 117, 118, 119, 120, 121, 122, 48, 49, 50, 51, 52, 53, 54, 55, 56, 57, 45, 95] : List UInt8), .i .i32 c1]) fun rA =>
 gB rA fun x =>
 some (.b (!x))
theorem linkPathIsNameF1 (c : MV) : bodyK cxPathIsNameF1 [] none Tryd.f82 [c] = dPathIsNameF1 c := by kernel_rfl
noncomputable def gPathIsNameF1 : Nat → List MV → Option MV := addG 82 (lst1 dPathIsNameF1) gStringsCutPrefix
theorem soundPathIsNameF1 : SoundG Tryd.prog cx gPathIsNameF1 :=
  soundStringsCutPrefix.fn (c' := cxPathIsNameF1) (caps := []) ⟨rfl, rfl, rfl, rfl, rfl, rfl, rfl, rfl, rfl⟩ rfl tab_ok eq_ok fk_ok mt_ok mix_ok dels_ok Tryd.func82 (by kernel_rfl) (fun _ => rfl) (lst1_of linkPathIsNameF1)
noncomputable def preStringsIndexIn : Nat → List MV → Option MV := gPathIsNameF1
theorem atStringsIndexInPathIsNameF1 (x0 : MV) : preStringsIndexIn 82 [x0] = dPathIsNameF1 x0 := by kernel_rfl

noncomputable def cxStringsIndexIn : Ctx := ⟨lookT tiTab, kk, gPathIsNameF1, gv, frs, lookN ftyOf, lookG sigTab, [], 21, [], [], lookL [], lookF fkTab, lookM mtTab, lookL [], lookH [], lookH [], lookH [(2, ⟨[1, 2], [], [(10, .mp ⟨true, [], true⟩)], [(1, [(6, .sc (.k (.i .i64)))]), (2, [])], []⟩)], dl⟩
noncomputable def dStringsIndexIn (sA f truth : MV) : Option MV :=
 gS sA fun sA1 =>
 gR f fun f1 =>
 gB truth fun truth1 =>
 bd (Loop (fun msA =>
 gC msA fun m msA1 =>
 gL m fun es =>
 gN msA1 <|
 ifB (itOk es) (
 gFn f1 fun fn cap =>
 chk (!gv fn) <|
 bd (preStringsIndexIn fn ([.i .i32 (itRune es)] ++ cap)) fun rA =>
 gB rA fun x =>
 ifB (decide (x = truth1)) (
 some (.inr (1, [.i .i64 (itPos es)]))) (
 some (.inl [.list (itStep es)]))) (
 some (.inr (2, [])))) [.list ([.s sA1, .i .i64 0] : List MV)]) fun p =>
 ifB (Nat.beq p.1 2) (
 gN p.2 <|
 some (.i .i64 (-1))) (
 chk (Nat.beq p.1 1) <|
 gC p.2 fun m1 msA2 =>
 gI .i64 m1 fun x1 =>
 gN msA2 <|
 some (.i .i64 x1))
theorem linkStringsIndexIn (sA f truth : MV) : bodyK cxStringsIndexIn [] none Tryd.f137 [sA, f, truth] = dStringsIndexIn sA f truth := by kernel_rfl
noncomputable def gStringsIndexIn : Nat → List MV → Option MV := addG 137 (lst3 dStringsIndexIn) gPathIsNameF1
theorem soundStringsIndexIn : SoundG Tryd.prog cx gStringsIndexIn :=
  soundPathIsNameF1.fn (c' := cxStringsIndexIn) (caps := []) ⟨rfl, rfl, rfl, rfl, rfl, rfl, rfl, rfl, rfl⟩ rfl tab_ok eq_ok fk_ok mt_ok mix_ok dels_ok Tryd.func137 (by kernel_rfl) (fun _ => rfl) (lst3_of linkStringsIndexIn)

noncomputable def cxStringsIndexFunc : Ctx := ⟨lookT tiTab, kk, gStringsIndexIn, gv, frs, lookN ftyOf, lookG sigTab, [], 8, [], [], lookL [], lookF fkTab, lookM mtTab, lookL [], lookH [], lookH [], lookH [], dl⟩
noncomputable def dStringsIndexFunc (sA f : MV) : Option MV :=
 gS sA fun sA1 =>
 gR f fun f1 =>
 bd (dStringsIndexIn (.s sA1) f1 (.b true)) fun rA =>
 gI .i64 rA fun x =>
 some (.i .i64 x)
theorem linkStringsIndexFunc (sA f : MV) : bodyK cxStringsIndexFunc [] none Tryd.f118 [sA, f] = dStringsIndexFunc sA f := by kernel_rfl
noncomputable def gStringsIndexFunc : Nat → List MV → Option MV := addG 118 (lst2 dStringsIndexFunc) gStringsIndexIn
theorem soundStringsIndexFunc : SoundG Tryd.prog cx gStringsIndexFunc :=
  soundStringsIndexIn.fn (c' := cxStringsIndexFunc) (caps := []) ⟨rfl, rfl, rfl, rfl, rfl, rfl, rfl, rfl, rfl⟩ rfl tab_ok eq_ok fk_ok mt_ok mix_ok dels_ok Tryd.func118 (by kernel_rfl) (fun _ => rfl) (lst2_of linkStringsIndexFunc)

noncomputable def cxStringsContainsFunc : Ctx := ⟨lookT tiTab, kk, gStringsIndexFunc, gv, frs, lookN ftyOf, lookG sigTab, [], 9, [], [], lookL [], lookF fkTab, lookM mtTab, lookL [], lookH [], lookH [], lookH [], dl⟩
noncomputable def dStringsContainsFunc (sA f : MV) : Option MV :=
 gS sA fun sA1 =>
 gR f fun f1 =>
 bd (dStringsIndexFunc (.s sA1) f1) fun rA =>
 gI .i64 rA fun x =>
 some (.b (decide ((0 : Int) ≤ x)))
theorem linkStringsContainsFunc (sA f : MV) : bodyK cxStringsContainsFunc [] none Tryd.f81 [sA, f] = dStringsContainsFunc sA f := by kernel_rfl
noncomputable def gStringsContainsFunc : Nat → List MV → Option MV := addG 81 (lst2 dStringsContainsFunc) gStringsIndexFunc
theorem soundStringsContainsFunc : SoundG Tryd.prog cx gStringsContainsFunc :=
  soundStringsIndexFunc.fn (c' := cxStringsContainsFunc) (caps := []) ⟨rfl, rfl, rfl, rfl, rfl, rfl, rfl, rfl, rfl⟩ rfl tab_ok eq_ok fk_ok mt_ok mix_ok dels_ok Tryd.func81 (by kernel_rfl) (fun _ => rfl) (lst2_of linkStringsContainsFunc)

noncomputable def cxPathIsName : Ctx := ⟨lookT tiTab, kk, gStringsContainsFunc, gv, frs, lookN ftyOf, lookG sigTab, [], 20, [], [], lookL [], lookF fkTab, lookM mtTab, lookL [], lookH [(1, ⟨[0], [], [], [(0, [(2, .sc (.k .b))])], []⟩)], lookH [], lookH [], dl⟩
noncomputable def dPathIsName (sA : MV) : Option MV :=
 gS sA fun sA1 =>
 bd (
 ifB (!decide (sA1 = ([] : List UInt8))) (
 ifB (decide ((sA1.length : Int) ≤ 30)) (
 bd (trimF [.s sA1, .s ([97, 98, 99, 100, 101, 102, 103, 104, 105, 106, 107, 108, 109, 110, 111, 112, 113, 114, 115, 116, 117, 118, 119, 120, 121, 122, 48, 49, 50, 51, 52, 53, 54, 55, 56, 57, 45, 95] : List UInt8)]) fun rA =>
 gS rA fun x =>
 ifB (decide (x = ([] : List UInt8))) (
 bd (dStringsContainsFunc (.s sA1) (.func 82 [])) fun rA1 =>
 gB rA1 fun x1 =>
 some [.b (!x1)]) (
 some [.b false])) (
 some [.b false])) (
 some [.b false])) fun vs =>
 gC vs fun m msA =>
 gB m fun x2 =>
 gN msA <|
 some (.b x2)
theorem linkPathIsName (sA : MV) : bodyK cxPathIsName [] none Tryd.f24 [sA] = dPathIsName sA := by kernel_rfl
noncomputable def gPathIsName : Nat → List MV → Option MV := addG 24 (lst1 dPathIsName) gStringsContainsFunc
theorem soundPathIsName : SoundG Tryd.prog cx gPathIsName :=
  soundStringsContainsFunc.fn (c' := cxPathIsName) (caps := []) ⟨rfl, rfl, rfl, rfl, rfl, rfl, rfl, rfl, rfl⟩ rfl tab_ok eq_ok fk_ok mt_ok mix_ok dels_ok Tryd.func24 (by kernel_rfl) (fun _ => rfl) (lst1_of linkPathIsName)

noncomputable def cxPathInnerF1 : Ctx := ⟨lookT tiTab, kk, gPathIsName, gv, frs, lookN ftyOf, lookG sigTab, [], 6, [], [], lookL [], lookF fkTab, lookM mtTab, lookL [], lookH [], lookH [], lookH [], dl⟩
noncomputable def dPathInnerF1 (sA : MV) : Option MV :=
 gS sA fun sA1 =>
 bd (dPathIsName (.s sA1)) fun rA =>
 gB rA fun x =>
 some (.b (!x))
theorem linkPathInnerF1 (sA : MV) : bodyK cxPathInnerF1 [] none Tryd.f108 [sA] = dPathInnerF1 sA := by kernel_rfl
noncomputable def gPathInnerF1 : Nat → List MV → Option MV := addG 108 (lst1 dPathInnerF1) gPathIsName
theorem soundPathInnerF1 : SoundG Tryd.prog cx gPathInnerF1 :=
  soundPathIsName.fn (c' := cxPathInnerF1) (caps := []) ⟨rfl, rfl, rfl, rfl, rfl, rfl, rfl, rfl, rfl⟩ rfl tab_ok eq_ok fk_ok mt_ok mix_ok dels_ok Tryd.func108 (by kernel_rfl) (fun _ => rfl) (lst1_of linkPathInnerF1)
noncomputable def preSlicesIndexFuncString : Nat → List MV → Option MV := gPathInnerF1
theorem atSlicesIndexFuncStringPathInnerF1 (x0 : MV) : preSlicesIndexFuncString 108 [x0] = dPathInnerF1 x0 := by kernel_rfl

noncomputable def cxSlicesIndexFuncString : Ctx := ⟨lookT tiTab, kk, gPathInnerF1, gv, frs, lookN ftyOf, lookG sigTab, [], 19, [], [], lookL [], lookF fkTab, lookM mtTab, lookL [], lookH [], lookH [], lookH [(2, ⟨[0, 1, 7], [], [(8, .sc (.k (.i .i64)))], [(1, [(4, .sc (.k (.i .i64)))]), (2, [])], []⟩)], dl⟩
noncomputable def dSlicesIndexFuncString (sA f : MV) : Option MV :=
 gL sA fun sA1 =>
 gR f fun f1 =>
 lenN sA1 fun len =>
 bd (Loop (fun msA =>
 gC msA fun m msA1 =>
 gI .i64 m fun x =>
 gN msA1 <|
 ifB (decide (x < (len : Int))) (
 idx sA1 x fun y =>
 gS y fun x1 =>
 gFn f1 fun fn cap =>
 chk (!gv fn) <|
 bd (preSlicesIndexFuncString fn ([.s x1] ++ cap)) fun rA =>
 gB rA fun x2 =>
 ifB x2 (
 some (.inr (1, [.i .i64 x]))) (
 some (.inl [.i .i64 (IntKind.wrap .i64 (x + 1))]))) (
 some (.inr (2, [])))) [.i .i64 0]) fun p =>
 ifB (Nat.beq p.1 2) (
 gN p.2 <|
 some (.i .i64 (-1))) (
 chk (Nat.beq p.1 1) <|
 gC p.2 fun m1 msA2 =>
 gI .i64 m1 fun x3 =>
 gN msA2 <|
 some (.i .i64 x3))
theorem linkSlicesIndexFuncString (sA f : MV) : bodyK cxSlicesIndexFuncString [] none Tryd.f132 [sA, f] = dSlicesIndexFuncString sA f := by kernel_rfl
noncomputable def gSlicesIndexFuncString : Nat → List MV → Option MV := addG 132 (lst2 dSlicesIndexFuncString) gPathInnerF1
theorem soundSlicesIndexFuncString : SoundG Tryd.prog cx gSlicesIndexFuncString :=
  soundPathInnerF1.fn (c' := cxSlicesIndexFuncString) (caps := []) ⟨rfl, rfl, rfl, rfl, rfl, rfl, rfl, rfl, rfl⟩ rfl tab_ok eq_ok fk_ok mt_ok mix_ok dels_ok Tryd.func132 (by kernel_rfl) (fun _ => rfl) (lst2_of linkSlicesIndexFuncString)

noncomputable def cxSlicesContainsFuncString : Ctx := ⟨lookT tiTab, kk, gSlicesIndexFuncString, gv, frs, lookN ftyOf, lookG sigTab, [], 9, [], [], lookL [], lookF fkTab, lookM mtTab, lookL [], lookH [], lookH [], lookH [], dl⟩
noncomputable def dSlicesContainsFuncString (sA f : MV) : Option MV :=
 gL sA fun sA1 =>
 gR f fun f1 =>
 bd (dSlicesIndexFuncString (.list sA1) f1) fun rA =>
 gI .i64 rA fun x =>
 some (.b (decide ((0 : Int) ≤ x)))
theorem linkSlicesContainsFuncString (sA f : MV) : bodyK cxSlicesContainsFuncString [] none Tryd.f107 [sA, f] = dSlicesContainsFuncString sA f := by kernel_rfl
noncomputable def gSlicesContainsFuncString : Nat → List MV → Option MV := addG 107 (lst2 dSlicesContainsFuncString) gSlicesIndexFuncString
theorem soundSlicesContainsFuncString : SoundG Tryd.prog cx gSlicesContainsFuncString :=
  soundSlicesIndexFuncString.fn (c' := cxSlicesContainsFuncString) (caps := []) ⟨rfl, rfl, rfl, rfl, rfl, rfl, rfl, rfl, rfl⟩ rfl tab_ok eq_ok fk_ok mt_ok mix_ok dels_ok Tryd.func107 (by kernel_rfl) (fun _ => rfl) (lst2_of linkSlicesContainsFuncString)

noncomputable def cxPathInner : Ctx := ⟨lookT tiTab, kk, gSlicesContainsFuncString, gv, frs, lookN ftyOf, lookG sigTab, [], 34, [], [], lookL [], lookF fkTab, lookM mtTab, lookL [], lookH [(7, ⟨[], [], [], [(0, [(2, .sc (.own 24 9 true)), (3, .sc (.k .b)), (6, .sc (.own 24 9 true))])], [24]⟩), (2, ⟨[0, 4, 5], [], [], [(0, [(12, .sc (.k .b))])], [24]⟩)], lookH [], lookH [], dl⟩
noncomputable def dPathInner (p : MV) : Option MV :=
 gS p fun p1 =>
 bd (dStringsCutPrefix (.s p1) (.s ([47] : List UInt8))) fun rA =>
 gT rA fun vs =>
 gC vs fun m msA =>
 gS m fun x =>
 gC msA fun m1 msA1 =>
 gB m1 fun x1 =>
 gN msA1 <|
 bd (
 ifB (!x1) (
 some [.b true]) (
 some [.b (decide ((100 : Int) < (p1.length : Int)))])) fun vs1 =>
 gC vs1 fun m2 msA2 =>
 gB m2 fun x2 =>
 gN msA2 <|
 ifB x2 (
 some (.tup [.list ([] : List MV), .b false])) (
 ifB (decide (x = ([] : List UInt8))) (
 some (.tup [.list ([] : List MV), .b true])) (
 bd (splitF [.s x, .s ([47] : List UInt8)]) fun rA1 =>
 gF rA1 fun xs =>
 bd (
 lenN xs fun len =>
 ifB (decide ((len : Int) ≤ 8)) (
 bd (dSlicesContainsFuncString (.list xs) (.func 108 [])) fun rA2 =>
 gB rA2 fun x3 =>
 some [.list xs, .b (!x3), .list xs]) (
 some [.list xs, .b false, .list xs])) fun vs2 =>
 gC vs2 fun m3 msA3 =>
 gL m3 fun xs1 =>
 gC msA3 fun m4 msA4 =>
 gB m4 fun x4 =>
 gC msA4 fun m5 msA5 =>
 gL m5 fun lA =>
 gN msA5 <|
 some (.tup [.list lA, .b x4])))
theorem linkPathInner (p : MV) : bodyK cxPathInner [] none Tryd.f76 [p] = dPathInner p := by kernel_rfl
noncomputable def gPathInner : Nat → List MV → Option MV := addG 76 (lst1 dPathInner) gSlicesContainsFuncString
theorem soundPathInner : SoundG Tryd.prog cx gPathInner :=
  soundSlicesContainsFuncString.fn (c' := cxPathInner) (caps := []) ⟨rfl, rfl, rfl, rfl, rfl, rfl, rfl, rfl, rfl⟩ rfl tab_ok eq_ok fk_ok mt_ok mix_ok dels_ok Tryd.func76 (by kernel_rfl) (fun _ => rfl) (lst1_of linkPathInner)

noncomputable def cxPathRight : Ctx := ⟨lookT tiTab, kk, gPathInner, gv, frs, lookN ftyOf, lookG sigTab, [], 11, [], [], lookL [], lookF fkTab, lookM mtTab, lookL [], lookH [], lookH [], lookH [], dl⟩
noncomputable def dPathRight (p : MV) : Option MV :=
 gS p fun p1 =>
 bd (dPathInner (.s p1)) fun rA =>
 gT rA fun vs =>
 gC vs fun m msA =>
 gL m fun x =>
 gC msA fun m1 msA1 =>
 gB m1 fun x1 =>
 gN msA1 <|
 some (.b x1)
theorem linkPathRight (p : MV) : bodyK cxPathRight [] none Tryd.f26 [p] = dPathRight p := by kernel_rfl
noncomputable def gPathRight : Nat → List MV → Option MV := addG 26 (lst1 dPathRight) gPathInner
theorem soundPathRight : SoundG Tryd.prog cx gPathRight :=
  soundPathInner.fn (c' := cxPathRight) (caps := []) ⟨rfl, rfl, rfl, rfl, rfl, rfl, rfl, rfl, rfl⟩ rfl tab_ok eq_ok fk_ok mt_ok mix_ok dels_ok Tryd.func26 (by kernel_rfl) (fun _ => rfl) (lst1_of linkPathRight)

noncomputable def cxBytealgLastIndexByteString : Ctx := ⟨lookT tiTab, kk, gPathRight, gv, frs, lookN ftyOf, lookG sigTab, [], 19, [], [], lookL [], lookF fkTab, lookM mtTab, lookL [], lookH [], lookH [], lookH [(2, ⟨[0, 1], [], [(5, .sc (.k (.i .i64)))], [(1, [(4, .sc (.k (.i .i64)))]), (2, [])], []⟩)], dl⟩
noncomputable def dBytealgLastIndexByteString (sA c : MV) : Option MV :=
 gS sA fun sA1 =>
 gI .u8 c fun c1 =>
 bd (Loop (fun msA =>
 gC msA fun m msA1 =>
 gI .i64 m fun i =>
 gN msA1 <|
 ifB (decide ((0 : Int) ≤ i)) (
 chk (decide ((0 : Int) ≤ i ∧ i < (sA1.length : Int))) <|
 ifB (decide (((sA1.getD (Int.toNat i) 0).toNat : Int) = c1)) (
 some (.inr (1, [.i .i64 i]))) (
 some (.inl [.i .i64 (IntKind.wrap .i64 (i - 1))]))) (
 some (.inr (2, [])))) [.i .i64 (IntKind.wrap .i64 ((sA1.length : Int) - 1))]) fun p =>
 ifB (Nat.beq p.1 2) (
 gN p.2 <|
 some (.i .i64 (-1))) (
 chk (Nat.beq p.1 1) <|
 gC p.2 fun m1 msA2 =>
 gI .i64 m1 fun x =>
 gN msA2 <|
 some (.i .i64 x))
theorem linkBytealgLastIndexByteString (sA c : MV) : bodyK cxBytealgLastIndexByteString [] none Tryd.f109 [sA, c] = dBytealgLastIndexByteString sA c := by kernel_rfl
noncomputable def gBytealgLastIndexByteString : Nat → List MV → Option MV := addG 109 (lst2 dBytealgLastIndexByteString) gPathRight
theorem soundBytealgLastIndexByteString : SoundG Tryd.prog cx gBytealgLastIndexByteString :=
  soundPathRight.fn (c' := cxBytealgLastIndexByteString) (caps := []) ⟨rfl, rfl, rfl, rfl, rfl, rfl, rfl, rfl, rfl⟩ rfl tab_ok eq_ok fk_ok mt_ok mix_ok dels_ok Tryd.func109 (by kernel_rfl) (fun _ => rfl) (lst2_of linkBytealgLastIndexByteString)

noncomputable def cxBytealgHashStrRevString : Ctx := ⟨lookT tiTab, kk, gBytealgLastIndexByteString, gv, frs, lookN ftyOf, lookG sigTab, [], 40, [], [], lookL [], lookF fkTab, lookM mtTab, lookL [], lookH [], lookH [(11, ⟨[4, 7, 8], [], [], [(0, [(6, .sc (.k (.i .u32)))])], []⟩)], lookH [(8, ⟨[4], [], [(6, .sc (.k (.i .u32))), (7, .sc (.k (.i .u32))), (8, .sc (.k (.i .i64)))], [(4, [(6, .sc (.k (.i .u32)))])], []⟩), (3, ⟨[0], [], [(4, .sc (.k (.i .u32))), (5, .sc (.k (.i .i64)))], [(2, [(4, .sc (.k (.i .u32)))])], []⟩)], dl⟩
noncomputable def dBytealgHashStrRevString (sep : MV) : Option MV :=
 gS sep fun sep1 =>
 bd (Loop (fun msA =>
 gC msA fun m msA1 =>
 gI .u32 m fun hash =>
 gC msA1 fun m1 msA2 =>
 gI .i64 m1 fun i =>
 gN msA2 <|
 ifB (decide ((0 : Int) ≤ i)) (
 chk (decide ((0 : Int) ≤ i ∧ i < (sep1.length : Int))) <|
 some (.inl [.i .u32 (IntKind.wrap .u32 ((IntKind.wrap .u32 (hash * 16777619)) + (IntKind.wrap .u32 ((sep1.getD (Int.toNat i) 0).toNat : Int)))), .i .i64 (IntKind.wrap .i64 (i - 1))])) (
 some (.inr (2, [.i .u32 hash])))) [.i .u32 0, .i .i64 (IntKind.wrap .i64 ((sep1.length : Int) - 1))]) fun p =>
 chk (Nat.beq p.1 2) <|
 gC p.2 fun m2 msA3 =>
 gI .u32 m2 fun hash1 =>
 gN msA3 <|
 bd (Loop (fun msA4 =>
 gC msA4 fun m3 msA5 =>
 gI .u32 m3 fun pow =>
 gC msA5 fun m4 msA6 =>
 gI .u32 m4 fun sq =>
 gC msA6 fun m5 msA7 =>
 gI .i64 m5 fun i1 =>
 gN msA7 <|
 ifB (decide ((0 : Int) < i1)) (
 none) (
 some (.inr (4, [.i .u32 pow])))) [.i .u32 1, .i .u32 16777619, .i .i64 (sep1.length : Int)]) fun p1 =>
 chk (Nat.beq p1.1 4) <|
 gC p1.2 fun m6 msA8 =>
 gI .u32 m6 fun pow1 =>
 gN msA8 <|
 some (.tup [.i .u32 hash1, .i .u32 pow1])
theorem linkBytealgHashStrRevString (sep : MV) : bodyK cxBytealgHashStrRevString [] none Tryd.f133 [sep] = dBytealgHashStrRevString sep := by kernel_rfl
noncomputable def gBytealgHashStrRevString : Nat → List MV → Option MV := addG 133 (lst1 dBytealgHashStrRevString) gBytealgLastIndexByteString
theorem soundBytealgHashStrRevString : SoundG Tryd.prog cx gBytealgHashStrRevString :=
  soundBytealgLastIndexByteString.fn (c' := cxBytealgHashStrRevString) (caps := []) ⟨rfl, rfl, rfl, rfl, rfl, rfl, rfl, rfl, rfl⟩ rfl tab_ok eq_ok fk_ok mt_ok mix_ok dels_ok Tryd.func133 (by kernel_rfl) (fun _ => rfl) (lst1_of linkBytealgHashStrRevString)

noncomputable def cxBytealgLastIndexRabinKarpString : Ctx := ⟨lookT tiTab, kk, gBytealgHashStrRevString, gv, frs, lookN ftyOf, lookG sigTab, [], 87, [], [], lookL [], lookF fkTab, lookM mtTab, lookL [], lookH [(17, ⟨[0, 1, 5, 6, 7, 9, 11], [], [], [(0, [(85, .sc (.k .b))])], []⟩), (9, ⟨[0, 1, 5, 6, 7, 8, 9], [], [], [(0, [(47, .sc (.k .b))])], []⟩)], lookH [], lookH [(12, ⟨[0, 1, 5, 6, 7], [], [(9, .sc (.k (.i .u32))), (11, .sc (.k (.i .i64)))], [(1, [(4, .sc (.k (.i .i64)))]), (4, [])], []⟩), (6, ⟨[0, 1, 5, 6, 7, 8], [], [(9, .sc (.k (.i .u32))), (10, .sc (.k (.i .i64)))], [(2, [(9, .sc (.k (.i .u32)))])], []⟩)], dl⟩
noncomputable def dBytealgLastIndexRabinKarpString (a a1 : MV) : Option MV :=
 gS a fun a2 =>
 gS a1 fun a1N1 =>
 bd (dBytealgHashStrRevString (.s a1N1)) fun rA =>
 gT rA fun vs =>
 gC vs fun m msA =>
 gI .u32 m fun x =>
 gC msA fun m1 msA1 =>
 gI .u32 m1 fun x1 =>
 gN msA1 <|
 bd (Loop (fun msA2 =>
 gC msA2 fun m2 msA3 =>
 gI .u32 m2 fun x2 =>
 gC msA3 fun m3 msA4 =>
 gI .i64 m3 fun x3 =>
 gN msA4 <|
 ifB (decide ((IntKind.wrap .i64 ((a2.length : Int) - (a1N1.length : Int))) ≤ x3)) (
 chk (decide ((0 : Int) ≤ x3 ∧ x3 < (a2.length : Int))) <|
 some (.inl [.i .u32 (IntKind.wrap .u32 ((IntKind.wrap .u32 (x2 * 16777619)) + (IntKind.wrap .u32 ((a2.getD (Int.toNat x3) 0).toNat : Int)))), .i .i64 (IntKind.wrap .i64 (x3 - 1))])) (
 some (.inr (2, [.i .u32 x2])))) [.i .u32 0, .i .i64 (IntKind.wrap .i64 ((a2.length : Int) - 1))]) fun p =>
 chk (Nat.beq p.1 2) <|
 gC p.2 fun m4 msA5 =>
 gI .u32 m4 fun x4 =>
 gN msA5 <|
 bd (
 ifB (decide (x4 = x)) (
 chk (decide ((0 : Int) ≤ (IntKind.wrap .i64 ((a2.length : Int) - (a1N1.length : Int))) ∧ (IntKind.wrap .i64 ((a2.length : Int) - (a1N1.length : Int))) ≤ (a2.length : Int) ∧ (a2.length : Int) ≤ (a2.length : Int))) <|
 some [.b (decide ((List.drop (Int.toNat (IntKind.wrap .i64 ((a2.length : Int) - (a1N1.length : Int)))) (List.take (Int.toNat (a2.length : Int)) a2)) = a1N1))]) (
 some [.b false])) fun vs1 =>
 gC vs1 fun m5 msA6 =>
 gB m5 fun x5 =>
 gN msA6 <|
 ifB x5 (
 some (.i .i64 (IntKind.wrap .i64 ((a2.length : Int) - (a1N1.length : Int))))) (
 bd (Loop (fun msA7 =>
 gC msA7 fun m6 msA8 =>
 gI .u32 m6 fun x6 =>
 gC msA8 fun m7 msA9 =>
 gI .i64 m7 fun x7 =>
 gN msA9 <|
 ifB (decide ((0 : Int) ≤ x7)) (
 chk (decide ((0 : Int) ≤ x7 ∧ x7 < (a2.length : Int))) <|
 chk (decide ((0 : Int) ≤ (IntKind.wrap .i64 (x7 + (a1N1.length : Int))) ∧ (IntKind.wrap .i64 (x7 + (a1N1.length : Int))) < (a2.length : Int))) <|
 bd (
 ifB (decide ((IntKind.wrap .u32 ((IntKind.wrap .u32 ((IntKind.wrap .u32 (x6 * 16777619)) + (IntKind.wrap .u32 ((a2.getD (Int.toNat x7) 0).toNat : Int)))) - (IntKind.wrap .u32 (x1 * (IntKind.wrap .u32 ((a2.getD (Int.toNat (IntKind.wrap .i64 (x7 + (a1N1.length : Int)))) 0).toNat : Int)))))) = x)) (
 chk (decide ((0 : Int) ≤ x7 ∧ x7 ≤ (IntKind.wrap .i64 (x7 + (a1N1.length : Int))) ∧ (IntKind.wrap .i64 (x7 + (a1N1.length : Int))) ≤ (a2.length : Int))) <|
 some [.b (decide ((List.drop (Int.toNat x7) (List.take (Int.toNat (IntKind.wrap .i64 (x7 + (a1N1.length : Int)))) a2)) = a1N1))]) (
 some [.b false])) fun vs2 =>
 gC vs2 fun m8 msA10 =>
 gB m8 fun x8 =>
 gN msA10 <|
 ifB x8 (
 some (.inr (1, [.i .i64 x7]))) (
 some (.inl [.i .u32 (IntKind.wrap .u32 ((IntKind.wrap .u32 ((IntKind.wrap .u32 (x6 * 16777619)) + (IntKind.wrap .u32 ((a2.getD (Int.toNat x7) 0).toNat : Int)))) - (IntKind.wrap .u32 (x1 * (IntKind.wrap .u32 ((a2.getD (Int.toNat (IntKind.wrap .i64 (x7 + (a1N1.length : Int)))) 0).toNat : Int)))))), .i .i64 (IntKind.wrap .i64 (x7 - 1))]))) (
 some (.inr (4, [])))) [.i .u32 x4, .i .i64 (IntKind.wrap .i64 ((IntKind.wrap .i64 ((a2.length : Int) - (a1N1.length : Int))) - 1))]) fun p1 =>
 ifB (Nat.beq p1.1 4) (
 gN p1.2 <|
 some (.i .i64 (-1))) (
 chk (Nat.beq p1.1 1) <|
 gC p1.2 fun m9 msA11 =>
 gI .i64 m9 fun x9 =>
 gN msA11 <|
 some (.i .i64 x9)))
theorem linkBytealgLastIndexRabinKarpString (a a1 : MV) : bodyK cxBytealgLastIndexRabinKarpString [] none Tryd.f110 [a, a1] = dBytealgLastIndexRabinKarpString a a1 := by kernel_rfl
noncomputable def gBytealgLastIndexRabinKarpString : Nat → List MV → Option MV := addG 110 (lst2 dBytealgLastIndexRabinKarpString) gBytealgHashStrRevString
theorem soundBytealgLastIndexRabinKarpString : SoundG Tryd.prog cx gBytealgLastIndexRabinKarpString :=
  soundBytealgHashStrRevString.fn (c' := cxBytealgLastIndexRabinKarpString) (caps := []) ⟨rfl, rfl, rfl, rfl, rfl, rfl, rfl, rfl, rfl⟩ rfl tab_ok eq_ok fk_ok mt_ok mix_ok dels_ok Tryd.func110 (by kernel_rfl) (fun _ => rfl) (lst2_of linkBytealgLastIndexRabinKarpString)

noncomputable def cxStringsLastIndex : Ctx := ⟨lookT tiTab, kk, gBytealgLastIndexRabinKarpString, gv, frs, lookN ftyOf, lookG sigTab, [], 36, [], [], lookL [], lookF fkTab, lookM mtTab, lookL [], lookH [], lookH [], lookH [], dl⟩
noncomputable def dStringsLastIndex (sA substr : MV) : Option MV :=
 gS sA fun sA1 =>
 gS substr fun substr1 =>
 ifB (decide ((substr1.length : Int) = 0)) (
 some (.i .i64 (sA1.length : Int))) (
 ifB (decide ((substr1.length : Int) = 1)) (
 chk (decide ((0 : Int) ≤ 0 ∧ (0 : Int) < (substr1.length : Int))) <|
 bd (dBytealgLastIndexByteString (.s sA1) (.i .u8 ((substr1.getD (Int.toNat 0) 0).toNat : Int))) fun rA =>
 gI .i64 rA fun x =>
 some (.i .i64 x)) (
 ifB (decide ((substr1.length : Int) = (sA1.length : Int))) (
 ifB (decide (substr1 = sA1)) (
 some (.i .i64 0)) (
 some (.i .i64 (-1)))) (
 ifB (decide ((sA1.length : Int) < (substr1.length : Int))) (
 some (.i .i64 (-1))) (
 bd (dBytealgLastIndexRabinKarpString (.s sA1) (.s substr1)) fun rA1 =>
 gI .i64 rA1 fun x1 =>
 some (.i .i64 x1)))))
theorem linkStringsLastIndex (sA substr : MV) : bodyK cxStringsLastIndex [] none Tryd.f78 [sA, substr] = dStringsLastIndex sA substr := by kernel_rfl
noncomputable def gStringsLastIndex : Nat → List MV → Option MV := addG 78 (lst2 dStringsLastIndex) gBytealgLastIndexRabinKarpString
theorem soundStringsLastIndex : SoundG Tryd.prog cx gStringsLastIndex :=
  soundBytealgLastIndexRabinKarpString.fn (c' := cxStringsLastIndex) (caps := []) ⟨rfl, rfl, rfl, rfl, rfl, rfl, rfl, rfl, rfl⟩ rfl tab_ok eq_ok fk_ok mt_ok mix_ok dels_ok Tryd.func78 (by kernel_rfl) (fun _ => rfl) (lst2_of linkStringsLastIndex)

noncomputable def cxPathParent : Ctx := ⟨lookT tiTab, kk, gStringsLastIndex, gv, frs, lookN ftyOf, lookG sigTab, [], 16, [], [], lookL [], lookF fkTab, lookM mtTab, lookL [], lookH [], lookH [], lookH [], dl⟩
noncomputable def dPathParent (p : MV) : Option MV :=
 gS p fun p1 =>
 bd (dPathRight (.s p1)) fun rA =>
 gB rA fun x =>
 ifB (!x) (
 some (.tup [.s ([] : List UInt8), .i .i64 13])) (
 ifB (decide (p1 = ([47] : List UInt8))) (
 some (.tup [.s ([] : List UInt8), .i .i64 6])) (
 bd (dStringsLastIndex (.s p1) (.s ([47] : List UInt8))) fun rA1 =>
 gI .i64 rA1 fun x1 =>
 chk (decide ((0 : Int) ≤ 0 ∧ (0 : Int) ≤ (imax 1 x1) ∧ (imax 1 x1) ≤ (p1.length : Int))) <|
 some (.tup [.s (List.drop (Int.toNat 0) (List.take (Int.toNat (imax 1 x1)) p1)), .i .i64 0])))
theorem linkPathParent (p : MV) : bodyK cxPathParent [] none Tryd.f22 [p] = dPathParent p := by kernel_rfl
noncomputable def gPathParent : Nat → List MV → Option MV := addG 22 (lst1 dPathParent) gStringsLastIndex
theorem soundPathParent : SoundG Tryd.prog cx gPathParent :=
  soundStringsLastIndex.fn (c' := cxPathParent) (caps := []) ⟨rfl, rfl, rfl, rfl, rfl, rfl, rfl, rfl, rfl⟩ rfl tab_ok eq_ok fk_ok mt_ok mix_ok dels_ok Tryd.func22 (by kernel_rfl) (fun _ => rfl) (lst1_of linkPathParent)

noncomputable def cxR08IsName : Ctx := ⟨lookT tiTab, kk, gPathParent, gv, frs, lookN ftyOf, lookG sigTab, [], 47, [], [], lookL [], lookF fkTab, lookM mtTab, lookL [], lookH [(8, ⟨[0], [], [], [(0, [(2, .sc (.k .b))])], []⟩), (5, ⟨[0, 3, 4], [], [], [(0, [(5, .sc (.k .b))])], []⟩)], lookH [], lookH [(2, ⟨[0], [], [(3, .sc (.k (.i .i64)))], [(1, [(2, .sc (.k .b))]), (2, [])], []⟩)], dl⟩
noncomputable def dR08IsName (sA : MV) : Option MV :=
 gS sA fun sA1 =>
 bd (Loop (fun msA =>
 gC msA fun m msA1 =>
 gI .i64 m fun i =>
 gN msA1 <|
 ifB (decide (i < (sA1.length : Int))) (
 chk (decide ((0 : Int) ≤ i ∧ i < (sA1.length : Int))) <|
 bd (
 ifB (decide ((97 : Int) ≤ ((sA1.getD (Int.toNat i) 0).toNat : Int))) (
 ifB (decide (((sA1.getD (Int.toNat i) 0).toNat : Int) ≤ 122)) (
 some [.b true]) (
 ifB (decide ((48 : Int) ≤ ((sA1.getD (Int.toNat i) 0).toNat : Int))) (
 ifB (decide (((sA1.getD (Int.toNat i) 0).toNat : Int) ≤ 57)) (
 some [.b true]) (
 ifB (decide (((sA1.getD (Int.toNat i) 0).toNat : Int) = 45)) (
 some [.b true]) (
 some [.b (decide (((sA1.getD (Int.toNat i) 0).toNat : Int) = 95))]))) (
 ifB (decide (((sA1.getD (Int.toNat i) 0).toNat : Int) = 45)) (
 some [.b true]) (
 some [.b (decide (((sA1.getD (Int.toNat i) 0).toNat : Int) = 95))])))) (
 ifB (decide ((48 : Int) ≤ ((sA1.getD (Int.toNat i) 0).toNat : Int))) (
 ifB (decide (((sA1.getD (Int.toNat i) 0).toNat : Int) ≤ 57)) (
 some [.b true]) (
 ifB (decide (((sA1.getD (Int.toNat i) 0).toNat : Int) = 45)) (
 some [.b true]) (
 some [.b (decide (((sA1.getD (Int.toNat i) 0).toNat : Int) = 95))]))) (
 ifB (decide (((sA1.getD (Int.toNat i) 0).toNat : Int) = 45)) (
 some [.b true]) (
 some [.b (decide (((sA1.getD (Int.toNat i) 0).toNat : Int) = 95))])))) fun vs =>
 gC vs fun m1 msA2 =>
 gB m1 fun letter =>
 gN msA2 <|
 ifB (!letter) (
 some (.inr (1, [.b false]))) (
 some (.inl [.i .i64 (IntKind.wrap .i64 (i + 1))]))) (
 some (.inr (2, [])))) [.i .i64 0]) fun p =>
 ifB (Nat.beq p.1 2) (
 gN p.2 <|
 bd (
 ifB (decide ((1 : Int) ≤ (sA1.length : Int))) (
 some [.b (decide ((sA1.length : Int) ≤ 30))]) (
 some [.b false])) fun vs1 =>
 gC vs1 fun m2 msA3 =>
 gB m2 fun x =>
 gN msA3 <|
 some (.b x)) (
 chk (Nat.beq p.1 1) <|
 gC p.2 fun m3 msA4 =>
 gB m3 fun x1 =>
 gN msA4 <|
 some (.b x1))
theorem linkR08IsName (sA : MV) : bodyK cxR08IsName [] none Tryd.f25 [sA] = dR08IsName sA := by kernel_rfl
noncomputable def gR08IsName : Nat → List MV → Option MV := addG 25 (lst1 dR08IsName) gPathParent
theorem soundR08IsName : SoundG Tryd.prog cx gR08IsName :=
  soundPathParent.fn (c' := cxR08IsName) (caps := []) ⟨rfl, rfl, rfl, rfl, rfl, rfl, rfl, rfl, rfl⟩ rfl tab_ok eq_ok fk_ok mt_ok mix_ok dels_ok Tryd.func25 (by kernel_rfl) (fun _ => rfl) (lst1_of linkR08IsName)

noncomputable def cxR08Cut : Ctx := ⟨lookT tiTab, kk, gR08IsName, gv, frs, lookN ftyOf, lookG sigTab, [], 46, [32, 43], [], lookL [], lookF fkTab, lookM mtTab, lookL [], lookH [(2, ⟨[0, 4], [7], [], [(0, [(15, .sc (.k .b))])], [7, 32, 38, 43]⟩)], lookH [(11, ⟨[0, 6], [], [], [(0, [(4, .sc (.own 7 9 true)), (5, .sc (.k .s))])], [7, 32, 38, 43]⟩)], lookH [(8, ⟨[0], [], [(4, .sc (.own 7 9 true)), (5, .sc (.k .s)), (6, .sc (.k (.i .i64)))], [(2, [(4, .sc (.own 7 9 true)), (5, .sc (.k .s))])], [7, 32, 38, 43]⟩)], dl⟩
noncomputable def dR08Cut (p : MV) : Option MV :=
 gS p fun p1 =>
 bd (
 ifB (decide ((p1.length : Int) = 0)) (
 some [.b true]) (
 chk (decide ((0 : Int) ≤ 0 ∧ (0 : Int) < (p1.length : Int))) <|
 some [.b (!decide (((p1.getD (Int.toNat 0) 0).toNat : Int) = 47))])) fun vs =>
 gC vs fun m msA =>
 gB m fun x =>
 gN msA <|
 ifB x (
 some (.tup [.list ([] : List MV), .b false])) (
 ifB (decide (p1 = ([47] : List UInt8))) (
 some (.tup [.list ([] : List MV), .b true])) (
 bd (Loop (fun msA1 =>
 gC msA1 fun m1 msA2 =>
 gL m1 fun out =>
 gC msA2 fun m2 msA3 =>
 gS m2 fun name =>
 gC msA3 fun m3 msA4 =>
 gI .i64 m3 fun i =>
 gN msA4 <|
 ifB (decide (i < (p1.length : Int))) (
 chk (decide ((0 : Int) ≤ i ∧ i < (p1.length : Int))) <|
 bd (
 ifB (decide (((p1.getD (Int.toNat i) 0).toNat : Int) = 47)) (
 lenN out fun len =>
 lenN ([.s name] : List MV) fun len1 =>
 chk (decide ((len + len1) * 16 ≤ 2 ^ 46)) <|
 some (0, [.list (out ++ ([.s name] : List MV)), .s ([] : List UInt8)])) (
 chk (decide ((0 : Int) ≤ i ∧ i < (p1.length : Int))) <|
 bysK ([.i .u8 ((p1.getD (Int.toNat i) 0).toNat : Int)] : List MV) fun bs =>
 chk (decide (name.length + bs.length ≤ 2 ^ 46)) <|
 some (0, [.list out, .s (name ++ bs)]))) fun p3 =>
 chk (Nat.beq p3.1 0) <|
 gC p3.2 fun m4 msA5 =>
 gL m4 fun out1 =>
 gC msA5 fun m5 msA6 =>
 gS m5 fun name1 =>
 gN msA6 <|
 some (.inl [.list out1, .s name1, .i .i64 (IntKind.wrap .i64 (i + 1))])) (
 some (.inr (2, [.list out, .s name])))) [.list ([] : List MV), .s ([] : List UInt8), .i .i64 1]) fun p2 =>
 chk (Nat.beq p2.1 2) <|
 gC p2.2 fun m6 msA7 =>
 gL m6 fun out2 =>
 gC msA7 fun m7 msA8 =>
 gS m7 fun name2 =>
 gN msA8 <|
 lenN out2 fun len2 =>
 lenN ([.s name2] : List MV) fun len3 =>
 chk (decide ((len2 + len3) * 16 ≤ 2 ^ 46)) <|
 some (.tup [.list (out2 ++ ([.s name2] : List MV)), .b true])))
theorem linkR08Cut (p : MV) : bodyK cxR08Cut [] none Tryd.f77 [p] = dR08Cut p := by kernel_rfl
noncomputable def gR08Cut : Nat → List MV → Option MV := addG 77 (lst1 dR08Cut) gR08IsName
theorem soundR08Cut : SoundG Tryd.prog cx gR08Cut :=
  soundR08IsName.fn (c' := cxR08Cut) (caps := []) ⟨rfl, rfl, rfl, rfl, rfl, rfl, rfl, rfl, rfl⟩ rfl tab_ok eq_ok fk_ok mt_ok mix_ok dels_ok Tryd.func77 (by kernel_rfl) (fun _ => rfl) (lst1_of linkR08Cut)

noncomputable def cxR08Right : Ctx := ⟨lookT tiTab, kk, gR08Cut, gv, frs, lookN ftyOf, lookG sigTab, [], 32, [], [], lookL [], lookF fkTab, lookM mtTab, lookL [], lookH [(9, ⟨[3, 4], [], [], [(0, [(2, .sc (.k .b))])], []⟩)], lookH [], lookH [(5, ⟨[3, 4], [], [(5, .sc (.k (.i .i64)))], [(1, [(2, .sc (.k .b))]), (2, [])], []⟩)], dl⟩
noncomputable def dR08Right (p : MV) : Option MV :=
 gS p fun p1 =>
 ifB (decide ((100 : Int) < (p1.length : Int))) (
 some (.b false)) (
 bd (dR08Cut (.s p1)) fun rA =>
 gT rA fun vs =>
 gC vs fun m msA =>
 gL m fun x =>
 gC msA fun m1 msA1 =>
 gB m1 fun x1 =>
 gN msA1 <|
 bd (Loop (fun msA2 =>
 gC msA2 fun m2 msA3 =>
 gI .i64 m2 fun i =>
 gN msA3 <|
 lenN x fun len =>
 ifB (decide (i < (len : Int))) (
 idx x i fun y =>
 gS y fun x2 =>
 bd (dR08IsName (.s x2)) fun rA1 =>
 gB rA1 fun x3 =>
 ifB (!x3) (
 some (.inr (1, [.b false]))) (
 some (.inl [.i .i64 (IntKind.wrap .i64 (i + 1))]))) (
 some (.inr (2, [])))) [.i .i64 0]) fun p2 =>
 ifB (Nat.beq p2.1 2) (
 gN p2.2 <|
 bd (
 ifB x1 (
 lenN x fun len1 =>
 some [.b (decide ((len1 : Int) ≤ 8))]) (
 some [.b false])) fun vs1 =>
 gC vs1 fun m3 msA4 =>
 gB m3 fun x4 =>
 gN msA4 <|
 some (.b x4)) (
 chk (Nat.beq p2.1 1) <|
 gC p2.2 fun m4 msA5 =>
 gB m4 fun x5 =>
 gN msA5 <|
 some (.b x5)))
theorem linkR08Right (p : MV) : bodyK cxR08Right [] none Tryd.f27 [p] = dR08Right p := by kernel_rfl
noncomputable def gR08Right : Nat → List MV → Option MV := addG 27 (lst1 dR08Right) gR08Cut
theorem soundR08Right : SoundG Tryd.prog cx gR08Right :=
  soundR08Cut.fn (c' := cxR08Right) (caps := []) ⟨rfl, rfl, rfl, rfl, rfl, rfl, rfl, rfl, rfl⟩ rfl tab_ok eq_ok fk_ok mt_ok mix_ok dels_ok Tryd.func27 (by kernel_rfl) (fun _ => rfl) (lst1_of linkR08Right)

noncomputable def cxL11Few : Ctx := ⟨lookT tiTab, kk, gR08Right, gv, frs, lookN ftyOf, lookG sigTab, [], 23, [], [], lookL [], lookF fkTab, lookM mtTab, lookL [], lookH [(4, ⟨[1, 3], [], [], [(0, [(22, .sc (.k .b))])], []⟩)], lookH [], lookH [(2, ⟨[1], [], [(3, .sc (.k (.i .i64)))], [(1, [(2, .sc (.k .b))]), (2, [])], []⟩)], dl⟩
noncomputable def dL11Few (t : MV) : Option MV :=
 gA t fun cs =>
 gC cs fun m msA =>
 gL m fun L =>
 gN msA <|
 bd (Loop (fun msA1 =>
 gC msA1 fun m1 msA2 =>
 gI .i64 m1 fun i =>
 gN msA2 <|
 lenN L fun len =>
 ifB (decide (i < (len : Int))) (
 bd (
 ifB (decide (i = 60)) (
 some [.b true]) (
 idx L i fun y =>
 gA y fun cs1 =>
 gC cs1 fun m2 msA3 =>
 gS m2 fun Path =>
 gC msA3 fun m3 msA4 =>
 gI .i64 m3 fun Client =>
 gC msA4 fun m4 msA5 =>
 gB m4 fun Kids =>
 gN msA5 <|
 some [.b (decide ((300 : Int) < (Path.length : Int)))])) fun vs =>
 gC vs fun m5 msA6 =>
 gB m5 fun x =>
 gN msA6 <|
 ifB x (
 some (.inr (1, [.b false]))) (
 some (.inl [.i .i64 (IntKind.wrap .i64 (i + 1))]))) (
 some (.inr (2, [])))) [.i .i64 0]) fun p =>
 ifB (Nat.beq p.1 2) (
 gN p.2 <|
 some (.b true)) (
 chk (Nat.beq p.1 1) <|
 gC p.2 fun m6 msA7 =>
 gB m6 fun x1 =>
 gN msA7 <|
 some (.b x1))
theorem linkL11Few (t : MV) : bodyK cxL11Few [] none Tryd.f31 [t] = dL11Few t := by kernel_rfl
noncomputable def gL11Few : Nat → List MV → Option MV := addG 31 (lst1 dL11Few) gR08Right
theorem soundL11Few : SoundG Tryd.prog cx gL11Few :=
  soundR08Right.fn (c' := cxL11Few) (caps := []) ⟨rfl, rfl, rfl, rfl, rfl, rfl, rfl, rfl, rfl⟩ rfl tab_ok eq_ok fk_ok mt_ok mix_ok dels_ok Tryd.func31 (by kernel_rfl) (fun _ => rfl) (lst1_of linkL11Few)

noncomputable def cxR11Has : Ctx := ⟨lookT tiTab, kk, gL11Few, gv, frs, lookN ftyOf, lookG sigTab, [], 18, [], [], lookL [], lookF fkTab, lookM mtTab, lookL [(4, [0, 1, 2, 3, 4, 5])], lookH [], lookH [], lookH [(2, ⟨[0, 3], [], [(5, .sc (.k (.i .i64)))], [(1, [(4, .sc (.k .b))]), (2, [])], []⟩)], dl⟩
noncomputable def dR11Has (lA w : MV) : Option MV :=
 gL lA fun lA1 =>
 gA w fun cs =>
 gC cs fun m msA =>
 gS m fun Path =>
 gC msA fun m1 msA1 =>
 gI .i64 m1 fun Client =>
 gC msA1 fun m2 msA2 =>
 gB m2 fun Kids =>
 gN msA2 <|
 bd (Loop (fun msA3 =>
 gC msA3 fun m3 msA4 =>
 gI .i64 m3 fun i =>
 gN msA4 <|
 lenN lA1 fun len =>
 ifB (decide (i < (len : Int))) (
 idx lA1 i fun y =>
 gA y fun cs1 =>
 gC cs1 fun m4 msA5 =>
 gS m4 fun Path1 =>
 gC msA5 fun m5 msA6 =>
 gI .i64 m5 fun Client1 =>
 gC msA6 fun m6 msA7 =>
 gB m6 fun Kids1 =>
 gN msA7 <|
 ifB ((decide (Path1 = Path)) && ((decide (Client1 = Client)) && (decide (Kids1 = Kids)))) (
 some (.inr (1, [.b true]))) (
 some (.inl [.i .i64 (IntKind.wrap .i64 (i + 1))]))) (
 some (.inr (2, [])))) [.i .i64 0]) fun p =>
 ifB (Nat.beq p.1 2) (
 gN p.2 <|
 some (.b false)) (
 chk (Nat.beq p.1 1) <|
 gC p.2 fun m7 msA8 =>
 gB m7 fun x =>
 gN msA8 <|
 some (.b x))
theorem linkR11Has (lA w : MV) : bodyK cxR11Has [] none Tryd.f86 [lA, w] = dR11Has lA w := by kernel_rfl
noncomputable def gR11Has : Nat → List MV → Option MV := addG 86 (lst2 dR11Has) gL11Few
theorem soundR11Has : SoundG Tryd.prog cx gR11Has :=
  soundL11Few.fn (c' := cxR11Has) (caps := []) ⟨rfl, rfl, rfl, rfl, rfl, rfl, rfl, rfl, rfl⟩ rfl tab_ok eq_ok fk_ok mt_ok mix_ok dels_ok Tryd.func86 (by kernel_rfl) (fun _ => rfl) (lst2_of linkR11Has)

noncomputable def cxR11Right : Ctx := ⟨lookT tiTab, kk, gR11Has, gv, frs, lookN ftyOf, lookG sigTab, [], 44, [], [], lookL [], lookF fkTab, lookM mtTab, lookL [(4, [0, 1, 2, 3, 4, 5, 6, 7, 8, 9, 10, 11, 12, 13, 14, 15, 16, 17, 18, 19, 20, 21, 22, 23, 24, 25, 26, 27, 28])], lookH [(4, ⟨[1, 3], [], [], [(0, [(39, .sc (.k .b))])], []⟩)], lookH [], lookH [(2, ⟨[1], [], [(3, .sc (.k (.i .i64)))], [(1, [(2, .sc (.k .b))]), (2, [])], []⟩)], dl⟩
noncomputable def dR11Right (t : MV) : Option MV :=
 gA t fun cs =>
 gC cs fun m msA =>
 gL m fun L =>
 gN msA <|
 bd (Loop (fun msA1 =>
 gC msA1 fun m1 msA2 =>
 gI .i64 m1 fun i =>
 gN msA2 <|
 lenN L fun len =>
 ifB (decide (i < (len : Int))) (
 bd (
 idx L i fun y =>
 gA y fun cs1 =>
 gC cs1 fun m2 msA3 =>
 gS m2 fun Path =>
 gC msA3 fun m3 msA4 =>
 gI .i64 m3 fun Client =>
 gC msA4 fun m4 msA5 =>
 gB m4 fun Kids =>
 gN msA5 <|
 bd (dR08Right (.s Path)) fun rA =>
 gB rA fun x =>
 ifB (!x) (
 some [.b true]) (
 idx L i fun y1 =>
 gA y1 fun cs2 =>
 gC cs2 fun m5 msA6 =>
 gS m5 fun Path1 =>
 gC msA6 fun m6 msA7 =>
 gI .i64 m6 fun Client1 =>
 gC msA7 fun m7 msA8 =>
 gB m7 fun Kids1 =>
 gN msA8 <|
 ifB (decide (Client1 < 0)) (
 some [.b true]) (
 lenN L fun len1 =>
 chk (decide ((0 : Int) ≤ 0 ∧ (0 : Int) ≤ i ∧ i ≤ (len1 : Int))) <|
 idx L i fun y2 =>
 gA y2 fun cs3 =>
 gC cs3 fun m8 msA9 =>
 gS m8 fun Path2 =>
 gC msA9 fun m9 msA10 =>
 gI .i64 m9 fun Client2 =>
 gC msA10 fun m10 msA11 =>
 gB m10 fun Kids2 =>
 gN msA11 <|
 bd (dR11Has (.list (List.drop (Int.toNat 0) (List.take (Int.toNat i) L))) (.agg [.s Path2, .i .i64 Client2, .b Kids2])) fun rA1 =>
 gB rA1 fun x1 =>
 some [.b x1]))) fun vs =>
 gC vs fun m11 msA12 =>
 gB m11 fun x2 =>
 gN msA12 <|
 ifB x2 (
 some (.inr (1, [.b false]))) (
 some (.inl [.i .i64 (IntKind.wrap .i64 (i + 1))]))) (
 some (.inr (2, [])))) [.i .i64 0]) fun p =>
 ifB (Nat.beq p.1 2) (
 gN p.2 <|
 lenN L fun len2 =>
 some (.b (decide ((len2 : Int) ≤ 200)))) (
 chk (Nat.beq p.1 1) <|
 gC p.2 fun m12 msA13 =>
 gB m12 fun x3 =>
 gN msA13 <|
 some (.b x3))
theorem linkR11Right (t : MV) : bodyK cxR11Right [] none Tryd.f32 [t] = dR11Right t := by kernel_rfl
noncomputable def gR11Right : Nat → List MV → Option MV := addG 32 (lst1 dR11Right) gR11Has
theorem soundR11Right : SoundG Tryd.prog cx gR11Right :=
  soundR11Has.fn (c' := cxR11Right) (caps := []) ⟨rfl, rfl, rfl, rfl, rfl, rfl, rfl, rfl, rfl⟩ rfl tab_ok eq_ok fk_ok mt_ok mix_ok dels_ok Tryd.func32 (by kernel_rfl) (fun _ => rfl) (lst1_of linkR11Right)

noncomputable def cxL11One : Ctx := ⟨lookT tiTab, kk, gR11Right, gv, frs, lookN ftyOf, lookG sigTab, [], 10, [], [], lookL [], lookF fkTab, lookM mtTab, lookL [], lookH [], lookH [], lookH [], dl⟩
noncomputable def dL11One (w : MV) : Option MV :=
 gA w fun cs =>
 gC cs fun m msA =>
 gS m fun Path =>
 gC msA fun m1 msA1 =>
 gI .i64 m1 fun Client =>
 gC msA1 fun m2 msA2 =>
 gB m2 fun Kids =>
 gN msA2 <|
 some (.agg [.s Path, .i .i64 Client, .b Kids])
theorem linkL11One (w : MV) : bodyK cxL11One [] none Tryd.f40 [w] = dL11One w := by kernel_rfl
noncomputable def gL11One : Nat → List MV → Option MV := addG 40 (lst1 dL11One) gR11Right
theorem soundL11One : SoundG Tryd.prog cx gL11One :=
  soundR11Right.fn (c' := cxL11One) (caps := []) ⟨rfl, rfl, rfl, rfl, rfl, rfl, rfl, rfl, rfl⟩ rfl tab_ok eq_ok fk_ok mt_ok mix_ok dels_ok Tryd.func40 (by kernel_rfl) (fun _ => rfl) (lst1_of linkL11One)

noncomputable def cxL11Plain : Ctx := ⟨lookT tiTab, kk, gL11One, gv, frs, lookN ftyOf, lookG sigTab, [], 25, [21], [], lookL [], lookF fkTab, lookM mtTab, lookL [(5, [0, 1, 2, 3, 4, 5, 6, 7, 8, 9, 10, 11])], lookH [], lookH [], lookH [(3, ⟨[1, 2], [], [(3, .box [.own 22 59 true]), (4, .sc (.k (.i .i64)))], [(2, [(3, .box [.own 22 59 true])])], [21, 22]⟩)], dl⟩
noncomputable def dL11Plain (t : MV) : Option MV :=
 gA t fun cs =>
 gC cs fun m msA =>
 gL m fun L =>
 gN msA <|
 bd (Loop (fun msA1 =>
 gC msA1 fun m1 msA2 =>
 gL m1 fun out =>
 gC msA2 fun m2 msA3 =>
 gI .i64 m2 fun i =>
 gN msA3 <|
 lenN L fun len =>
 ifB (decide (i < (len : Int))) (
 idx L i fun y =>
 gA y fun cs1 =>
 gC cs1 fun m3 msA4 =>
 gS m3 fun Path =>
 gC msA4 fun m4 msA5 =>
 gI .i64 m4 fun Client =>
 gC msA5 fun m5 msA6 =>
 gB m5 fun Kids =>
 gN msA6 <|
 bd (dL11One (.agg [.s Path, .i .i64 Client, .b Kids])) fun rA =>
 gA rA fun cs2 =>
 gC cs2 fun m6 msA7 =>
 gS m6 fun Path1 =>
 gC msA7 fun m7 msA8 =>
 gI .i64 m7 fun Client1 =>
 gC msA8 fun m8 msA9 =>
 gB m8 fun Kids1 =>
 gN msA9 <|
 lenN out fun len1 =>
 lenN ([.agg [.s Path1, .i .i64 Client1, .b Kids1]] : List MV) fun len2 =>
 chk (decide ((len1 + len2) * 32 ≤ 2 ^ 46)) <|
 some (.inl [.list (out ++ ([.agg [.s Path1, .i .i64 Client1, .b Kids1]] : List MV)), .i .i64 (IntKind.wrap .i64 (i + 1))])) (
 some (.inr (2, [.list out])))) [.list ([] : List MV), .i .i64 0]) fun p =>
 chk (Nat.beq p.1 2) <|
 gC p.2 fun m9 msA10 =>
 gL m9 fun out1 =>
 gN msA10 <|
 some (.agg [.list out1])
theorem linkL11Plain (t : MV) : bodyK cxL11Plain [] none Tryd.f33 [t] = dL11Plain t := by kernel_rfl
noncomputable def gL11Plain : Nat → List MV → Option MV := addG 33 (lst1 dL11Plain) gL11One
theorem soundL11Plain : SoundG Tryd.prog cx gL11Plain :=
  soundL11One.fn (c' := cxL11Plain) (caps := []) ⟨rfl, rfl, rfl, rfl, rfl, rfl, rfl, rfl, rfl⟩ rfl tab_ok eq_ok fk_ok mt_ok mix_ok dels_ok Tryd.func33 (by kernel_rfl) (fun _ => rfl) (lst1_of linkL11Plain)

noncomputable def cxL11Short : Ctx := ⟨lookT tiTab, kk, gL11Plain, gv, frs, lookN ftyOf, lookG sigTab, [], 21, [], [], lookL [], lookF fkTab, lookM mtTab, lookL [], lookH [(4, ⟨[0, 3], [], [], [(0, [(20, .sc (.k .b))])], []⟩)], lookH [], lookH [(2, ⟨[0], [], [(3, .sc (.k (.i .i64)))], [(1, [(2, .sc (.k .b))]), (2, [])], []⟩)], dl⟩
noncomputable def dL11Short (lA : MV) : Option MV :=
 gL lA fun lA1 =>
 bd (Loop (fun msA =>
 gC msA fun m msA1 =>
 gI .i64 m fun i =>
 gN msA1 <|
 lenN lA1 fun len =>
 ifB (decide (i < (len : Int))) (
 bd (
 ifB (decide (i = 40)) (
 some [.b true]) (
 idx lA1 i fun y =>
 gA y fun cs =>
 gC cs fun m1 msA2 =>
 gI .i64 m1 fun Kind =>
 gC msA2 fun m2 msA3 =>
 gS m2 fun Path =>
 gN msA3 <|
 some [.b (decide ((300 : Int) < (Path.length : Int)))])) fun vs =>
 gC vs fun m3 msA4 =>
 gB m3 fun x =>
 gN msA4 <|
 ifB x (
 some (.inr (1, [.b false]))) (
 some (.inl [.i .i64 (IntKind.wrap .i64 (i + 1))]))) (
 some (.inr (2, [])))) [.i .i64 0]) fun p =>
 ifB (Nat.beq p.1 2) (
 gN p.2 <|
 some (.b true)) (
 chk (Nat.beq p.1 1) <|
 gC p.2 fun m4 msA5 =>
 gB m4 fun x1 =>
 gN msA5 <|
 some (.b x1))
theorem linkL11Short (lA : MV) : bodyK cxL11Short [] none Tryd.f34 [lA] = dL11Short lA := by kernel_rfl
noncomputable def gL11Short : Nat → List MV → Option MV := addG 34 (lst1 dL11Short) gL11Plain
theorem soundL11Short : SoundG Tryd.prog cx gL11Short :=
  soundL11Plain.fn (c' := cxL11Short) (caps := []) ⟨rfl, rfl, rfl, rfl, rfl, rfl, rfl, rfl, rfl⟩ rfl tab_ok eq_ok fk_ok mt_ok mix_ok dels_ok Tryd.func34 (by kernel_rfl) (fun _ => rfl) (lst1_of linkL11Short)

noncomputable def cxWatchTouches : Ctx := ⟨lookT tiTab, kk, gL11Short, gv, frs, lookN ftyOf, lookG sigTab, [], 48, [], [], lookL [], lookF fkTab, lookM mtTab, lookL [], lookH [(6, ⟨[2, 3, 5, 6], [], [], [(0, [(4, .sc (.k .b))])], []⟩), (1, ⟨[2, 3], [], [], [(0, [(20, .sc (.k .b))])], []⟩)], lookH [], lookH [], dl⟩
noncomputable def dWatchTouches (c w : MV) : Option MV :=
 gA c fun cs =>
 gC cs fun m msA =>
 gI .i64 m fun Kind =>
 gC msA fun m1 msA1 =>
 gS m1 fun Path =>
 gN msA1 <|
 gA w fun cs1 =>
 gC cs1 fun m2 msA2 =>
 gS m2 fun Path1 =>
 gC msA2 fun m3 msA3 =>
 gI .i64 m3 fun Client =>
 gC msA3 fun m4 msA4 =>
 gB m4 fun Kids =>
 gN msA4 <|
 bd (
 ifB (decide (Kind < 1)) (
 some [.b true]) (
 ifB (decide ((3 : Int) < Kind)) (
 some [.b true]) (
 bd (dPathRight (.s Path)) fun rA =>
 gB rA fun x =>
 some [.b (!x)]))) fun vs =>
 gC vs fun m5 msA5 =>
 gB m5 fun x1 =>
 gN msA5 <|
 ifB x1 (
 some (.b false)) (
 ifB (!Kids) (
 some (.b (decide (Path = Path1)))) (
 bd (dPathParent (.s Path)) fun rA1 =>
 gT rA1 fun vs1 =>
 gC vs1 fun m6 msA6 =>
 gS m6 fun x2 =>
 gC msA6 fun m7 msA7 =>
 gI .i64 m7 fun x3 =>
 gN msA7 <|
 bd (
 ifB (decide (x3 = 0)) (
 ifB (!decide (Kind = 2)) (
 some [.b (decide (x2 = Path1))]) (
 some [.b false])) (
 some [.b false])) fun vs2 =>
 gC vs2 fun m8 msA8 =>
 gB m8 fun x4 =>
 gN msA8 <|
 some (.b x4)))
theorem linkWatchTouches (c w : MV) : bodyK cxWatchTouches [] none Tryd.f37 [c, w] = dWatchTouches c w := by kernel_rfl
noncomputable def gWatchTouches : Nat → List MV → Option MV := addG 37 (lst2 dWatchTouches) gL11Short
theorem soundWatchTouches : SoundG Tryd.prog cx gWatchTouches :=
  soundL11Short.fn (c' := cxWatchTouches) (caps := []) ⟨rfl, rfl, rfl, rfl, rfl, rfl, rfl, rfl, rfl⟩ rfl tab_ok eq_ok fk_ok mt_ok mix_ok dels_ok Tryd.func37 (by kernel_rfl) (fun _ => rfl) (lst2_of linkWatchTouches)

noncomputable def cxWatchFireF1 : Ctx := ⟨lookT tiTab, kk, gWatchTouches, gv, frs, lookN ftyOf, lookG sigTab, [(2, 1000002)], 17, [14], [], lookL [], lookF fkTab, lookM mtTab, lookL [], lookH [], lookH [(3, ⟨[1, 2, 3, 5], [], [], [(0, [(1000002, .box [.own 2000000 53 false])])], [14]⟩)], lookH [], dl⟩
noncomputable def dWatchFireF1 (w : MV) (c : MV) (c1 : List MV) : Option MV :=
 gA w fun cs =>
 gC cs fun m msA =>
 gS m fun Path =>
 gC msA fun m1 msA1 =>
 gI .i64 m1 fun Client =>
 gC msA1 fun m2 msA2 =>
 gB m2 fun Kids =>
 gN msA2 <|
 gP c fun cs1 =>
 gC cs1 fun m3 msA3 =>
 gI .i64 m3 fun Kind =>
 gC msA3 fun m4 msA4 =>
 gS m4 fun Path1 =>
 gN msA4 <|
 gC c1 fun m5 msA5 =>
 gL m5 fun x =>
 gN msA5 <|
 bd (dWatchTouches (.agg [.i .i64 Kind, .s Path1]) (.agg [.s Path, .i .i64 Client, .b Kids])) fun rA =>
 gB rA fun x1 =>
 bd (
 ifB x1 (
 lenN x fun len =>
 lenN ([.agg [.s Path, .i .i64 Client, .b Kids, .i .i64 Kind, .s Path1]] : List MV) fun len1 =>
 chk (decide ((len + len1) * 56 ≤ 2 ^ 46)) <|
 some (0, [.list (x ++ ([.agg [.s Path, .i .i64 Client, .b Kids, .i .i64 Kind, .s Path1]] : List MV))])) (
 some (0, [.list x]))) fun p =>
 chk (Nat.beq p.1 0) <|
 gC p.2 fun m6 msA6 =>
 gL m6 fun xs =>
 gN msA6 <|
 some (.wback (.b x1) [.list xs])
theorem linkWatchFireF1 (w : MV) (c : MV) (c1 : List MV) : bodyC cxWatchFireF1 [[.i .i64, .s], []] 2 sigK89 Tryd.f89 [w, c, .cell (.func 0 c1)] = dWatchFireF1 w c c1 := by kernel_rfl
noncomputable abbrev FWatchFireF1 : List MV → Option MV := fun ms => match ms with | [a0, a1, .cell (.func off a2)] => (match Nat.beq off 0 with | true => dWatchFireF1 a0 a1 a2 | false => none) | _ => none
theorem FWatchFireF1_of {ms : List MV} {r : MV} (h : FWatchFireF1 ms = some r) : ∃ c' : Ctx, Like cx c' ∧ c'.g = gWatchTouches ∧ headC c' 89 Tryd.f89 [[.i .i64, .s], []] = true ∧ bodyC c' [[.i .i64, .s], []] 2 sigK89 Tryd.f89 ms = some r := by
  unfold FWatchFireF1 at h
  split at h
  · rename_i a0 a1 off a2
    cases ho0 : Nat.beq off 0 with
    | true =>
      have := Nat.eq_of_beq_eq_true ho0
      subst this
      exact ⟨cxWatchFireF1, ⟨rfl, rfl, rfl, rfl, rfl, rfl, rfl, rfl, rfl⟩, rfl, by kernel_rfl, (linkWatchFireF1 _ _ _).trans h⟩
    | false =>
    rw [ho0] at h
    simp only at h
    cases h
  · cases h
noncomputable def gWatchFireF1 : Nat → List MV → Option MV := addG 89 FWatchFireF1 gWatchTouches
theorem soundWatchFireF1 : SoundG Tryd.prog cx gWatchFireF1 :=
  soundWatchTouches.fnC (pos := 2) (ks := sigK89) (caps := [[.i .i64, .s], []]) tab_ok eq_ok fk_ok mt_ok mix_ok dels_ok Tryd.func89 (by kernel_rfl) (fun _ => rfl) FWatchFireF1_of
noncomputable def preWatchFire : Nat → List MV → Option MV := gWatchFireF1
theorem atWatchFireWatchFireF1 (x0 : MV) (x1 : MV) (x2 : List MV) : preWatchFire 89 [x0, x1, .cell (.func 0 x2)] = dWatchFireF1 x0 x1 x2 := by kernel_rfl

noncomputable def cxWatchFire : Ctx := ⟨lookT tiTab, kk, gWatchFireF1, gv, frs, lookN ftyOf, lookG sigTab, [], 26, [], [25], lookL [(8, [7])], lookF fkTab, lookM mtTab, lookL [(8, [0, 1, 2, 3, 4])], lookH [], lookH [], lookH [(4, ⟨[4, 13, 14], [], [(6, .sc (.own 12 48 false)), (7, .box [.own 2000000 53 false]), (15, .sc (.k (.i .i64)))], [(2, [(6, .sc (.own 12 48 false)), (7, .box [.own 2000000 53 false])])], []⟩)], dl⟩
noncomputable def dWatchFire (t lA : MV) : Option MV :=
 gA t fun cs =>
 gC cs fun m msA =>
 gL m fun L =>
 gN msA <|
 gL lA fun lA1 =>
 bd (cloneF 3 32 [.list L]) fun rA =>
 gF rA fun xs =>
 lenN lA1 fun len =>
 bd (Loop (fun msA1 =>
 gC msA1 fun m1 msA2 =>
 gL m1 fun left =>
 gC msA2 fun m2 msA3 =>
 gL m2 fun out =>
 gC msA3 fun m3 msA4 =>
 gI .i64 m3 fun x =>
 gN msA4 <|
 ifB (decide (x < (len : Int))) (
 idx lA1 x fun y =>
 gA y fun cs1 =>
 gC cs1 fun m4 msA5 =>
 gI .i64 m4 fun Kind =>
 gC msA5 fun m5 msA6 =>
 gS m5 fun Path =>
 gN msA6 <|
 chk (left.all aggB) <|
 bd (delF (stepC preWatchFire 89 [.rp [.i .i64 Kind, .s Path]]) [.list out] left) fun rA1 =>
 gC rA1.2 fun m6 msA7 =>
 gL m6 fun x1 =>
 gN msA7 <|
 some (.inl [.list rA1.1, .list x1, .i .i64 (IntKind.wrap .i64 (x + 1))])) (
 some (.inr (2, [.list left, .list out])))) [.list xs, .list ([] : List MV), .i .i64 0]) fun p =>
 chk (Nat.beq p.1 2) <|
 gC p.2 fun m7 msA8 =>
 gL m7 fun left1 =>
 gC msA8 fun m8 msA9 =>
 gL m8 fun out1 =>
 gN msA9 <|
 some (.tup [.agg [.list left1], .list out1])
theorem linkWatchFire (t lA : MV) : bodyK cxWatchFire [] none Tryd.f36 [t, lA] = dWatchFire t lA := by kernel_rfl
noncomputable def gWatchFire : Nat → List MV → Option MV := addG 36 (lst2 dWatchFire) gWatchFireF1
theorem soundWatchFire : SoundG Tryd.prog cx gWatchFire :=
  soundWatchFireF1.fn (c' := cxWatchFire) (caps := []) ⟨rfl, rfl, rfl, rfl, rfl, rfl, rfl, rfl, rfl⟩ rfl tab_ok eq_ok fk_ok mt_ok mix_ok dels_ok Tryd.func36 (by kernel_rfl) (fun _ => rfl) (lst2_of linkWatchFire)

noncomputable def cxSlicesIndexWatchWatch : Ctx := ⟨lookT tiTab, kk, gWatchFire, gv, frs, lookN ftyOf, lookG sigTab, [], 19, [], [], lookL [], lookF fkTab, lookM mtTab, lookL [(4, [0, 1, 2, 3, 4, 5])], lookH [], lookH [], lookH [(2, ⟨[0, 3, 7], [], [(8, .sc (.k (.i .i64)))], [(1, [(4, .sc (.k (.i .i64)))]), (2, [])], []⟩)], dl⟩
noncomputable def dSlicesIndexWatchWatch (sA v : MV) : Option MV :=
 gL sA fun sA1 =>
 gA v fun cs =>
 gC cs fun m msA =>
 gS m fun Path =>
 gC msA fun m1 msA1 =>
 gI .i64 m1 fun Client =>
 gC msA1 fun m2 msA2 =>
 gB m2 fun Kids =>
 gN msA2 <|
 lenN sA1 fun len =>
 bd (Loop (fun msA3 =>
 gC msA3 fun m3 msA4 =>
 gI .i64 m3 fun x =>
 gN msA4 <|
 ifB (decide (x < (len : Int))) (
 idx sA1 x fun y =>
 gA y fun cs1 =>
 gC cs1 fun m4 msA5 =>
 gS m4 fun Path1 =>
 gC msA5 fun m5 msA6 =>
 gI .i64 m5 fun Client1 =>
 gC msA6 fun m6 msA7 =>
 gB m6 fun Kids1 =>
 gN msA7 <|
 ifB ((decide (Path = Path1)) && ((decide (Client = Client1)) && (decide (Kids = Kids1)))) (
 some (.inr (1, [.i .i64 x]))) (
 some (.inl [.i .i64 (IntKind.wrap .i64 (x + 1))]))) (
 some (.inr (2, [])))) [.i .i64 0]) fun p =>
 ifB (Nat.beq p.1 2) (
 gN p.2 <|
 some (.i .i64 (-1))) (
 chk (Nat.beq p.1 1) <|
 gC p.2 fun m7 msA8 =>
 gI .i64 m7 fun x1 =>
 gN msA8 <|
 some (.i .i64 x1))
theorem linkSlicesIndexWatchWatch (sA v : MV) : bodyK cxSlicesIndexWatchWatch [] none Tryd.f122 [sA, v] = dSlicesIndexWatchWatch sA v := by kernel_rfl
noncomputable def gSlicesIndexWatchWatch : Nat → List MV → Option MV := addG 122 (lst2 dSlicesIndexWatchWatch) gWatchFire
theorem soundSlicesIndexWatchWatch : SoundG Tryd.prog cx gSlicesIndexWatchWatch :=
  soundWatchFire.fn (c' := cxSlicesIndexWatchWatch) (caps := []) ⟨rfl, rfl, rfl, rfl, rfl, rfl, rfl, rfl, rfl⟩ rfl tab_ok eq_ok fk_ok mt_ok mix_ok dels_ok Tryd.func122 (by kernel_rfl) (fun _ => rfl) (lst2_of linkSlicesIndexWatchWatch)

noncomputable def cxSlicesContainsWatchWatch : Ctx := ⟨lookT tiTab, kk, gSlicesIndexWatchWatch, gv, frs, lookN ftyOf, lookG sigTab, [], 9, [], [], lookL [], lookF fkTab, lookM mtTab, lookL [], lookH [], lookH [], lookH [], dl⟩
noncomputable def dSlicesContainsWatchWatch (sA v : MV) : Option MV :=
 gL sA fun sA1 =>
 gA v fun cs =>
 gC cs fun m msA =>
 gS m fun Path =>
 gC msA fun m1 msA1 =>
 gI .i64 m1 fun Client =>
 gC msA1 fun m2 msA2 =>
 gB m2 fun Kids =>
 gN msA2 <|
 bd (dSlicesIndexWatchWatch (.list sA1) (.agg [.s Path, .i .i64 Client, .b Kids])) fun rA =>
 gI .i64 rA fun x =>
 some (.b (decide ((0 : Int) ≤ x)))
theorem linkSlicesContainsWatchWatch (sA v : MV) : bodyK cxSlicesContainsWatchWatch [] none Tryd.f90 [sA, v] = dSlicesContainsWatchWatch sA v := by kernel_rfl
noncomputable def gSlicesContainsWatchWatch : Nat → List MV → Option MV := addG 90 (lst2 dSlicesContainsWatchWatch) gSlicesIndexWatchWatch
theorem soundSlicesContainsWatchWatch : SoundG Tryd.prog cx gSlicesContainsWatchWatch :=
  soundSlicesIndexWatchWatch.fn (c' := cxSlicesContainsWatchWatch) (caps := []) ⟨rfl, rfl, rfl, rfl, rfl, rfl, rfl, rfl, rfl⟩ rfl tab_ok eq_ok fk_ok mt_ok mix_ok dels_ok Tryd.func90 (by kernel_rfl) (fun _ => rfl) (lst2_of linkSlicesContainsWatchWatch)

noncomputable def cxWatchAdd : Ctx := ⟨lookT tiTab, kk, gSlicesContainsWatchWatch, gv, frs, lookN ftyOf, lookG sigTab, [], 36, [33], [], lookL [], lookF fkTab, lookM mtTab, lookL [(9, [0, 1, 3, 2, 4, 5, 6, 7, 8, 0, 1, 3, 4, 2, 5, 6, 7, 8, 2, 4])], lookH [], lookH [], lookH [], dl⟩
noncomputable def dWatchAdd (t w : MV) : Option MV :=
 gA t fun cs =>
 gC cs fun m msA =>
 gL m fun L =>
 gN msA <|
 gA w fun cs1 =>
 gC cs1 fun m1 msA1 =>
 gS m1 fun Path =>
 gC msA1 fun m2 msA2 =>
 gI .i64 m2 fun Client =>
 gC msA2 fun m3 msA3 =>
 gB m3 fun Kids =>
 gN msA3 <|
 bd (dPathRight (.s Path)) fun rA =>
 gB rA fun x =>
 ifB (!x) (
 some (.tup [.agg [.list L], .i .i64 13])) (
 ifB (decide (Client < 0)) (
 some (.tup [.agg [.list L], .i .i64 1])) (
 bd (dSlicesContainsWatchWatch (.list L) (.agg [.s Path, .i .i64 Client, .b Kids])) fun rA1 =>
 gB rA1 fun x1 =>
 ifB x1 (
 some (.tup [.agg [.list L], .i .i64 0])) (
 lenN L fun len =>
 ifB (decide ((200 : Int) ≤ (len : Int))) (
 some (.tup [.agg [.list L], .i .i64 9])) (
 both (
 bd (cloneF 3 32 [.list L]) fun rA2 =>
 gF rA2 fun xs =>
 lenN xs fun len1 =>
 lenN ([.agg [.s Path, .i .i64 Client, .b Kids]] : List MV) fun len2 =>
 chk (decide ((len1 + len2) * 32 ≤ 2 ^ 46)) <|
 some (.tup [.agg [.list (xs ++ ([.agg [.s Path, .i .i64 Client, .b Kids]] : List MV))], .i .i64 0])) (
 bd (cloneF 3 32 [.list L]) fun rA3 =>
 gF rA3 fun xs1 =>
 lenN xs1 fun len3 =>
 lenN ([.agg [.s Path, .i .i64 Client, .b Kids]] : List MV) fun len4 =>
 chk (decide ((len3 + len4) * 32 ≤ 2 ^ 46)) <|
 some (.tup [.agg [.list (xs1 ++ ([.agg [.s Path, .i .i64 Client, .b Kids]] : List MV))], .i .i64 0]))))))
theorem linkWatchAdd (t w : MV) : bodyK cxWatchAdd [] none Tryd.f38 [t, w] = dWatchAdd t w := by kernel_rfl
noncomputable def gWatchAdd : Nat → List MV → Option MV := addG 38 (lst2 dWatchAdd) gSlicesContainsWatchWatch
theorem soundWatchAdd : SoundG Tryd.prog cx gWatchAdd :=
  soundSlicesContainsWatchWatch.fn (c' := cxWatchAdd) (caps := []) ⟨rfl, rfl, rfl, rfl, rfl, rfl, rfl, rfl, rfl⟩ rfl tab_ok eq_ok fk_ok mt_ok mix_ok dels_ok Tryd.func38 (by kernel_rfl) (fun _ => rfl) (lst2_of linkWatchAdd)

noncomputable def cxL11Alive : Ctx := ⟨lookT tiTab, kk, gWatchAdd, gv, frs, lookN ftyOf, lookG sigTab, [], 46, [15], [], lookL [], lookF fkTab, lookM mtTab, lookL [], lookH [(3, ⟨[1, 2, 3, 4], [], [], [(0, [(0, .sc (.k .b))])], [15]⟩)], lookH [], lookH [], dl⟩
noncomputable def dL11Alive : Option MV :=
 bd (dWatchAdd (.agg [.list ([] : List MV)]) (.agg [.s ([47, 97] : List UInt8), .i .i64 1, .b true])) fun rA =>
 gT rA fun vs =>
 gC vs fun m msA =>
 gA m fun cs =>
 gC cs fun m1 msA1 =>
 gL m1 fun L =>
 gN msA1 <|
 gC msA fun m2 msA2 =>
 gI .i64 m2 fun x =>
 gN msA2 <|
 bd (dWatchFire (.agg [.list L]) (.list ([.agg [.i .i64 2, .s ([47, 97, 47, 98] : List UInt8)], .agg [.i .i64 1, .s ([47, 97, 47, 98] : List UInt8)]] : List MV))) fun rA1 =>
 gT rA1 fun vs1 =>
 gC vs1 fun m3 msA3 =>
 gA m3 fun cs1 =>
 gC cs1 fun m4 msA4 =>
 gL m4 fun L1 =>
 gN msA4 <|
 gC msA3 fun m5 msA5 =>
 gL m5 fun x1 =>
 gN msA5 <|
 bd (
 ifB (decide (x = 0)) (
 lenN L fun len =>
 ifB (decide ((len : Int) = 1)) (
 lenN L1 fun len1 =>
 ifB (decide ((len1 : Int) = 0)) (
 lenN x1 fun len2 =>
 ifB (decide ((len2 : Int) = 1)) (
 idx x1 0 fun y =>
 gA y fun cs2 =>
 gC cs2 fun m6 msA6 =>
 gS m6 fun WPath =>
 gC msA6 fun m7 msA7 =>
 gI .i64 m7 fun WClient =>
 gC msA7 fun m8 msA8 =>
 gB m8 fun WKids =>
 gC msA8 fun m9 msA9 =>
 gI .i64 m9 fun CKind =>
 gC msA9 fun m10 msA10 =>
 gS m10 fun CPath =>
 gN msA10 <|
 some [.b (decide (CKind = 1))]) (
 some [.b false])) (
 some [.b false])) (
 some [.b false])) (
 some [.b false])) fun vs2 =>
 gC vs2 fun m11 msA11 =>
 gB m11 fun x2 =>
 gN msA11 <|
 some (.b x2)
theorem linkL11Alive : bodyK cxL11Alive [] none Tryd.f35 [] = dL11Alive  := by kernel_rfl
noncomputable def gL11Alive : Nat → List MV → Option MV := addG 35 (lst0 dL11Alive) gWatchAdd
theorem soundL11Alive : SoundG Tryd.prog cx gL11Alive :=
  soundWatchAdd.fn (c' := cxL11Alive) (caps := []) ⟨rfl, rfl, rfl, rfl, rfl, rfl, rfl, rfl, rfl⟩ rfl tab_ok eq_ok fk_ok mt_ok mix_ok dels_ok Tryd.func35 (by kernel_rfl) (fun _ => rfl) (lst0_of linkL11Alive)

noncomputable def cxR11Events : Ctx := ⟨lookT tiTab, kk, gL11Alive, gv, frs, lookN ftyOf, lookG sigTab, [], 26, [], [], lookL [], lookF fkTab, lookM mtTab, lookL [(6, [0, 1, 2, 3, 4, 5, 6, 7, 8])], lookH [], lookH [], lookH [(4, ⟨[0, 1], [], [(5, .sc (.k (.i .i64)))], [(1, [(4, .sc (.k .b))]), (2, [])], []⟩)], dl⟩
noncomputable def dR11Events (a b : MV) : Option MV :=
 gL a fun a1 =>
 gL b fun b1 =>
 lenN a1 fun len =>
 lenN b1 fun len1 =>
 ifB (!decide ((len : Int) = (len1 : Int))) (
 some (.b false)) (
 bd (Loop (fun msA =>
 gC msA fun m msA1 =>
 gI .i64 m fun i =>
 gN msA1 <|
 lenN a1 fun len2 =>
 ifB (decide (i < (len2 : Int))) (
 idx a1 i fun y =>
 gA y fun cs =>
 gC cs fun m1 msA2 =>
 gS m1 fun WPath =>
 gC msA2 fun m2 msA3 =>
 gI .i64 m2 fun WClient =>
 gC msA3 fun m3 msA4 =>
 gB m3 fun WKids =>
 gC msA4 fun m4 msA5 =>
 gI .i64 m4 fun CKind =>
 gC msA5 fun m5 msA6 =>
 gS m5 fun CPath =>
 gN msA6 <|
 idx b1 i fun y1 =>
 gA y1 fun cs1 =>
 gC cs1 fun m6 msA7 =>
 gS m6 fun WPath1 =>
 gC msA7 fun m7 msA8 =>
 gI .i64 m7 fun WClient1 =>
 gC msA8 fun m8 msA9 =>
 gB m8 fun WKids1 =>
 gC msA9 fun m9 msA10 =>
 gI .i64 m9 fun CKind1 =>
 gC msA10 fun m10 msA11 =>
 gS m10 fun CPath1 =>
 gN msA11 <|
 ifB (!((decide (WPath = WPath1)) && ((decide (WClient = WClient1)) && ((decide (WKids = WKids1)) && ((decide (CKind = CKind1)) && (decide (CPath = CPath1))))))) (
 some (.inr (1, [.b false]))) (
 some (.inl [.i .i64 (IntKind.wrap .i64 (i + 1))]))) (
 some (.inr (2, [])))) [.i .i64 0]) fun p =>
 ifB (Nat.beq p.1 2) (
 gN p.2 <|
 some (.b true)) (
 chk (Nat.beq p.1 1) <|
 gC p.2 fun m11 msA12 =>
 gB m11 fun x =>
 gN msA12 <|
 some (.b x)))
theorem linkR11Events (a b : MV) : bodyK cxR11Events [] none Tryd.f44 [a, b] = dR11Events a b := by kernel_rfl
noncomputable def gR11Events : Nat → List MV → Option MV := addG 44 (lst2 dR11Events) gL11Alive
theorem soundR11Events : SoundG Tryd.prog cx gR11Events :=
  soundL11Alive.fn (c' := cxR11Events) (caps := []) ⟨rfl, rfl, rfl, rfl, rfl, rfl, rfl, rfl, rfl⟩ rfl tab_ok eq_ok fk_ok mt_ok mix_ok dels_ok Tryd.func44 (by kernel_rfl) (fun _ => rfl) (lst2_of linkR11Events)

noncomputable def cxL11Events : Ctx := ⟨lookT tiTab, kk, gR11Events, gv, frs, lookN ftyOf, lookG sigTab, [], 36, [33], [], lookL [], lookF fkTab, lookM mtTab, lookL [(5, [0, 1, 2, 3, 4, 5, 7, 8, 9, 10, 11, 12, 13, 14, 15, 16, 17, 18, 19, 6, 20, 21, 22, 23])], lookH [], lookH [], lookH [(3, ⟨[0], [], [(3, .sc (.own 5 131 true)), (4, .sc (.k (.i .i64)))], [(2, [(3, .sc (.own 5 131 true))])], [5, 33]⟩)], dl⟩
noncomputable def dL11Events (lA : MV) : Option MV :=
 gL lA fun lA1 =>
 bd (Loop (fun msA =>
 gC msA fun m msA1 =>
 gL m fun out =>
 gC msA1 fun m1 msA2 =>
 gI .i64 m1 fun i =>
 gN msA2 <|
 lenN lA1 fun len =>
 ifB (decide (i < (len : Int))) (
 idx lA1 i fun y =>
 gA y fun cs =>
 gC cs fun m2 msA3 =>
 gS m2 fun WPath =>
 gC msA3 fun m3 msA4 =>
 gI .i64 m3 fun WClient =>
 gC msA4 fun m4 msA5 =>
 gB m4 fun WKids =>
 gC msA5 fun m5 msA6 =>
 gI .i64 m5 fun CKind =>
 gC msA6 fun m6 msA7 =>
 gS m6 fun CPath =>
 gN msA7 <|
 idx lA1 i fun y1 =>
 gA y1 fun cs1 =>
 gC cs1 fun m7 msA8 =>
 gS m7 fun WPath1 =>
 gC msA8 fun m8 msA9 =>
 gI .i64 m8 fun WClient1 =>
 gC msA9 fun m9 msA10 =>
 gB m9 fun WKids1 =>
 gC msA10 fun m10 msA11 =>
 gI .i64 m10 fun CKind1 =>
 gC msA11 fun m11 msA12 =>
 gS m11 fun CPath1 =>
 gN msA12 <|
 idx lA1 i fun y2 =>
 gA y2 fun cs2 =>
 gC cs2 fun m12 msA13 =>
 gS m12 fun WPath2 =>
 gC msA13 fun m13 msA14 =>
 gI .i64 m13 fun WClient2 =>
 gC msA14 fun m14 msA15 =>
 gB m14 fun WKids2 =>
 gC msA15 fun m15 msA16 =>
 gI .i64 m15 fun CKind2 =>
 gC msA16 fun m16 msA17 =>
 gS m16 fun CPath2 =>
 gN msA17 <|
 bd (dL11One (.agg [.s WPath, .i .i64 WClient, .b WKids])) fun rA =>
 gA rA fun cs3 =>
 gC cs3 fun m17 msA18 =>
 gS m17 fun Path =>
 gC msA18 fun m18 msA19 =>
 gI .i64 m18 fun Client =>
 gC msA19 fun m19 msA20 =>
 gB m19 fun Kids =>
 gN msA20 <|
 lenN out fun len1 =>
 lenN ([.agg [.s Path, .i .i64 Client, .b Kids, .i .i64 CKind1, .s CPath2]] : List MV) fun len2 =>
 chk (decide ((len1 + len2) * 56 ≤ 2 ^ 46)) <|
 some (.inl [.list (out ++ ([.agg [.s Path, .i .i64 Client, .b Kids, .i .i64 CKind1, .s CPath2]] : List MV)), .i .i64 (IntKind.wrap .i64 (i + 1))])) (
 some (.inr (2, [.list out])))) [.list ([] : List MV), .i .i64 0]) fun p =>
 chk (Nat.beq p.1 2) <|
 gC p.2 fun m20 msA21 =>
 gL m20 fun out1 =>
 gN msA21 <|
 some (.list out1)
theorem linkL11Events (lA : MV) : bodyK cxL11Events [] none Tryd.f45 [lA] = dL11Events lA := by kernel_rfl
noncomputable def gL11Events : Nat → List MV → Option MV := addG 45 (lst1 dL11Events) gR11Events
theorem soundL11Events : SoundG Tryd.prog cx gL11Events :=
  soundR11Events.fn (c' := cxL11Events) (caps := []) ⟨rfl, rfl, rfl, rfl, rfl, rfl, rfl, rfl, rfl⟩ rfl tab_ok eq_ok fk_ok mt_ok mix_ok dels_ok Tryd.func45 (by kernel_rfl) (fun _ => rfl) (lst1_of linkL11Events)

noncomputable def cxWatchCancelF1 : Ctx := ⟨lookT tiTab, kk, gL11Events, gv, frs, lookN ftyOf, lookG sigTab, [], 8, [], [], lookL [], lookF fkTab, lookM mtTab, lookL [], lookH [], lookH [], lookH [], dl⟩
noncomputable def dWatchCancelF1 (w c : MV) : Option MV :=
 gA w fun cs =>
 gC cs fun m msA =>
 gS m fun Path =>
 gC msA fun m1 msA1 =>
 gI .i64 m1 fun Client =>
 gC msA1 fun m2 msA2 =>
 gB m2 fun Kids =>
 gN msA2 <|
 gP c fun cs1 =>
 gC cs1 fun m3 msA3 =>
 gI .i64 m3 fun x =>
 gN msA3 <|
 some (.b (decide (Client = x)))
theorem linkWatchCancelF1 (w c : MV) : bodyK cxWatchCancelF1 [[.i .i64]] none Tryd.f91 [w, c] = dWatchCancelF1 w c := by kernel_rfl
noncomputable def gWatchCancelF1 : Nat → List MV → Option MV := addG 91 (lst2 dWatchCancelF1) gL11Events
theorem soundWatchCancelF1 : SoundG Tryd.prog cx gWatchCancelF1 :=
  soundL11Events.fn (c' := cxWatchCancelF1) (caps := [[.i .i64]]) ⟨rfl, rfl, rfl, rfl, rfl, rfl, rfl, rfl, rfl⟩ rfl tab_ok eq_ok fk_ok mt_ok mix_ok dels_ok Tryd.func91 (by kernel_rfl) (fun _ => rfl) (lst2_of linkWatchCancelF1)
noncomputable def preWatchCancel : Nat → List MV → Option MV := gWatchCancelF1
theorem atWatchCancelWatchCancelF1 (x0 x1 : MV) : preWatchCancel 91 [x0, x1] = dWatchCancelF1 x0 x1 := by kernel_rfl

noncomputable def cxWatchCancel : Ctx := ⟨lookT tiTab, kk, gWatchCancelF1, gv, frs, lookN ftyOf, lookG sigTab, [], 11, [], [], lookL [], lookF fkTab, lookM mtTab, lookL [], lookH [], lookH [], lookH [], dl⟩
noncomputable def dWatchCancel (t client : MV) : Option MV :=
 gA t fun cs =>
 gC cs fun m msA =>
 gL m fun L =>
 gN msA <|
 gI .i64 client fun client1 =>
 bd (cloneF 3 32 [.list L]) fun rA =>
 gF rA fun xs =>
 chk (xs.all aggB) <|
 bd (delF (stepP preWatchCancel 91 [.rp [.i .i64 client1]]) () xs) fun rA1 =>
 some (.agg [.list rA1.1])
theorem linkWatchCancel (t client : MV) : bodyK cxWatchCancel [] none Tryd.f46 [t, client] = dWatchCancel t client := by kernel_rfl
noncomputable def gWatchCancel : Nat → List MV → Option MV := addG 46 (lst2 dWatchCancel) gWatchCancelF1
theorem soundWatchCancel : SoundG Tryd.prog cx gWatchCancel :=
  soundWatchCancelF1.fn (c' := cxWatchCancel) (caps := []) ⟨rfl, rfl, rfl, rfl, rfl, rfl, rfl, rfl, rfl⟩ rfl tab_ok eq_ok fk_ok mt_ok mix_ok dels_ok Tryd.func46 (by kernel_rfl) (fun _ => rfl) (lst2_of linkWatchCancel)

noncomputable def cxL11WatchCancels : Ctx := ⟨lookT tiTab, kk, gWatchCancel, gv, frs, lookN ftyOf, lookG sigTab, [], 152, [78], [], lookL [], lookF fkTab, lookM mtTab, lookL [(9, [0, 1, 2, 3, 4, 5, 6, 7, 8]), (17, [0, 1, 2, 3, 4, 5, 6, 7, 8, 9]), (21, [0, 1, 2, 3, 4, 5, 6, 7, 8, 9, 10])], lookH [(22, ⟨[10, 11, 13, 14, 15, 16, 17, 18], [57], [], [(0, [(6, .sc (.k .b))])], [57, 78]⟩), (21, ⟨[4, 10, 11, 13, 14, 15, 16, 17, 20], [57], [], [(0, [(18, .sc (.k .b))])], [57, 78]⟩), (17, ⟨[2, 4, 10, 11, 13, 14, 15, 16, 18, 19], [57], [], [(0, [(17, .sc (.k .b))])], [57, 78]⟩), (1, ⟨[2, 3, 4], [], [], [(0, [(40, .sc (.k .b))])], [57, 78]⟩)], lookH [(10, ⟨[2, 3, 4, 8, 10, 12], [], [], [(0, [(11, .sc (.own 57 53 true))])], [57, 78]⟩)], lookH [(19, ⟨[4, 10, 11, 13, 14, 15, 16, 17], [57], [(18, .sc (.k .b)), (20, .sc (.k (.i .i64)))], [(6, [(18, .sc (.k .b))])], [57, 78]⟩), (15, ⟨[2, 4, 10, 11, 13, 14, 15, 16, 18], [57], [(17, .sc (.k .b)), (19, .sc (.k (.i .i64)))], [(4, [(17, .sc (.k .b))])], [57, 78]⟩), (7, ⟨[2, 3, 4, 8, 10], [], [(11, .sc (.own 57 53 true)), (12, .sc (.k (.i .i64)))], [(2, [(11, .sc (.own 57 53 true))])], [57, 78]⟩)], dl⟩
noncomputable def dL11WatchCancels (a a1 a2 : MV) : Option MV :=
 gA a fun cs =>
 gC cs fun m msA =>
 gL m fun L =>
 gN msA <|
 gA a1 fun cs1 =>
 gC cs1 fun m1 msA1 =>
 gS m1 fun Path =>
 gC msA1 fun m2 msA2 =>
 gI .i64 m2 fun Client =>
 gC msA2 fun m3 msA3 =>
 gB m3 fun Kids =>
 gN msA3 <|
 gL a2 fun a2N1 =>
 bd (
 bd (dL11Few (.agg [.list L])) fun rA =>
 gB rA fun x =>
 ifB (!x) (
 some [.b true]) (
 bd (dL11Plain (.agg [.list L])) fun rA1 =>
 gA rA1 fun cs2 =>
 gC cs2 fun m4 msA4 =>
 gL m4 fun L1 =>
 gN msA4 <|
 bd (dR11Right (.agg [.list L1])) fun rA2 =>
 gB rA2 fun x1 =>
 ifB (!x1) (
 some [.b true]) (
 bd (dL11Short (.list a2N1)) fun rA3 =>
 gB rA3 fun x2 =>
 ifB (!x2) (
 some [.b true]) (
 some [.b (decide ((300 : Int) < (Path.length : Int)))])))) fun vs =>
 gC vs fun m5 msA5 =>
 gB m5 fun x3 =>
 gN msA5 <|
 ifB x3 (
 bd (dL11Alive) fun rA4 =>
 gB rA4 fun x4 =>
 some (.b x4)) (
 bd (dWatchFire (.agg [.list L]) (.list a2N1)) fun rA5 =>
 gT rA5 fun vs1 =>
 gC vs1 fun m6 msA6 =>
 gA m6 fun cs3 =>
 gC cs3 fun m7 msA7 =>
 gL m7 fun L2 =>
 gN msA7 <|
 gC msA6 fun m8 msA8 =>
 gL m8 fun x5 =>
 gN msA8 <|
 bd (dWatchCancel (.agg [.list L]) (.i .i64 Client)) fun rA6 =>
 gA rA6 fun cs4 =>
 gC cs4 fun m9 msA9 =>
 gL m9 fun L3 =>
 gN msA9 <|
 bd (dWatchFire (.agg [.list L3]) (.list a2N1)) fun rA7 =>
 gT rA7 fun vs2 =>
 gC vs2 fun m10 msA10 =>
 gA m10 fun cs5 =>
 gC cs5 fun m11 msA11 =>
 gL m11 fun L4 =>
 gN msA11 <|
 gC msA10 fun m12 msA12 =>
 gL m12 fun x6 =>
 gN msA12 <|
 bd (Loop (fun msA13 =>
 gC msA13 fun m13 msA14 =>
 gL m13 fun xs =>
 gC msA14 fun m14 msA15 =>
 gI .i64 m14 fun x7 =>
 gN msA15 <|
 lenN x5 fun len =>
 ifB (decide (x7 < (len : Int))) (
 idx x5 x7 fun y =>
 gA y fun cs6 =>
 gC cs6 fun m15 msA16 =>
 gS m15 fun WPath =>
 gC msA16 fun m16 msA17 =>
 gI .i64 m16 fun WClient =>
 gC msA17 fun m17 msA18 =>
 gB m17 fun WKids =>
 gC msA18 fun m18 msA19 =>
 gI .i64 m18 fun CKind =>
 gC msA19 fun m19 msA20 =>
 gS m19 fun CPath =>
 gN msA20 <|
 bd (
 ifB (!decide (WClient = Client)) (
 idx x5 x7 fun y1 =>
 gA y1 fun cs7 =>
 gC cs7 fun m20 msA21 =>
 gS m20 fun WPath1 =>
 gC msA21 fun m21 msA22 =>
 gI .i64 m21 fun WClient1 =>
 gC msA22 fun m22 msA23 =>
 gB m22 fun WKids1 =>
 gC msA23 fun m23 msA24 =>
 gI .i64 m23 fun CKind1 =>
 gC msA24 fun m24 msA25 =>
 gS m24 fun CPath1 =>
 gN msA25 <|
 lenN xs fun len1 =>
 lenN ([.agg [.s WPath1, .i .i64 WClient1, .b WKids1, .i .i64 CKind1, .s CPath1]] : List MV) fun len2 =>
 chk (decide ((len1 + len2) * 56 ≤ 2 ^ 46)) <|
 some (0, [.list (xs ++ ([.agg [.s WPath1, .i .i64 WClient1, .b WKids1, .i .i64 CKind1, .s CPath1]] : List MV))])) (
 some (0, [.list xs]))) fun p1 =>
 chk (Nat.beq p1.1 0) <|
 gC p1.2 fun m25 msA26 =>
 gL m25 fun xs1 =>
 gN msA26 <|
 some (.inl [.list xs1, .i .i64 (IntKind.wrap .i64 (x7 + 1))])) (
 some (.inr (2, [.list xs])))) [.list ([] : List MV), .i .i64 0]) fun p =>
 chk (Nat.beq p.1 2) <|
 gC p.2 fun m26 msA27 =>
 gL m26 fun xs2 =>
 gN msA27 <|
 bd (dWatchAdd (.agg [.list L]) (.agg [.s Path, .i .i64 Client, .b Kids])) fun rA8 =>
 gT rA8 fun vs3 =>
 gC vs3 fun m27 msA28 =>
 gA m27 fun cs8 =>
 gC cs8 fun m28 msA29 =>
 gL m28 fun L5 =>
 gN msA29 <|
 gC msA28 fun m29 msA30 =>
 gI .i64 m29 fun x8 =>
 gN msA30 <|
 bd (dWatchFire (.agg [.list L5]) (.list a2N1)) fun rA9 =>
 gT rA9 fun vs4 =>
 gC vs4 fun m30 msA31 =>
 gA m30 fun cs9 =>
 gC cs9 fun m31 msA32 =>
 gL m31 fun L6 =>
 gN msA32 <|
 gC msA31 fun m32 msA33 =>
 gL m32 fun x9 =>
 gN msA33 <|
 bd (Loop (fun msA34 =>
 gC msA34 fun m33 msA35 =>
 gB m33 fun x10 =>
 gC msA35 fun m34 msA36 =>
 gI .i64 m34 fun x11 =>
 gN msA36 <|
 lenN a2N1 fun len3 =>
 ifB (decide (x11 < (len3 : Int))) (
 bd (
 ifB x10 (
 some [.b true]) (
 idx a2N1 x11 fun y2 =>
 gA y2 fun cs10 =>
 gC cs10 fun m35 msA37 =>
 gI .i64 m35 fun Kind =>
 gC msA37 fun m36 msA38 =>
 gS m36 fun Path1 =>
 gN msA38 <|
 bd (dWatchTouches (.agg [.i .i64 Kind, .s Path1]) (.agg [.s Path, .i .i64 Client, .b Kids])) fun rA10 =>
 gB rA10 fun x12 =>
 some [.b x12])) fun vs5 =>
 gC vs5 fun m37 msA39 =>
 gB m37 fun x13 =>
 gN msA39 <|
 some (.inl [.b x13, .i .i64 (IntKind.wrap .i64 (x11 + 1))])) (
 some (.inr (4, [.b x10])))) [.b false, .i .i64 0]) fun p2 =>
 chk (Nat.beq p2.1 4) <|
 gC p2.2 fun m38 msA40 =>
 gB m38 fun x14 =>
 gN msA40 <|
 bd (Loop (fun msA41 =>
 gC msA41 fun m39 msA42 =>
 gB m39 fun x15 =>
 gC msA42 fun m40 msA43 =>
 gI .i64 m40 fun x16 =>
 gN msA43 <|
 lenN x9 fun len4 =>
 ifB (decide (x16 < (len4 : Int))) (
 bd (
 ifB x15 (
 some [.b true]) (
 idx x9 x16 fun y3 =>
 gA y3 fun cs11 =>
 gC cs11 fun m41 msA44 =>
 gS m41 fun WPath2 =>
 gC msA44 fun m42 msA45 =>
 gI .i64 m42 fun WClient2 =>
 gC msA45 fun m43 msA46 =>
 gB m43 fun WKids2 =>
 gC msA46 fun m44 msA47 =>
 gI .i64 m44 fun CKind2 =>
 gC msA47 fun m45 msA48 =>
 gS m45 fun CPath2 =>
 gN msA48 <|
 some [.b ((decide (WPath2 = Path)) && ((decide (WClient2 = Client)) && (decide (WKids2 = Kids))))])) fun vs6 =>
 gC vs6 fun m46 msA49 =>
 gB m46 fun x17 =>
 gN msA49 <|
 some (.inl [.b x17, .i .i64 (IntKind.wrap .i64 (x16 + 1))])) (
 some (.inr (6, [.b x15])))) [.b false, .i .i64 0]) fun p3 =>
 chk (Nat.beq p3.1 6) <|
 gC p3.2 fun m47 msA50 =>
 gB m47 fun x18 =>
 gN msA50 <|
 bd (
 bd (dL11Alive) fun rA11 =>
 gB rA11 fun x19 =>
 ifB x19 (
 bd (dL11Events (.list x6)) fun rA12 =>
 gL rA12 fun x20 =>
 bd (dL11Events (.list xs2)) fun rA13 =>
 gL rA13 fun x21 =>
 bd (dR11Events (.list x20) (.list x21)) fun rA14 =>
 gB rA14 fun x22 =>
 ifB x22 (
 ifB (!decide (x8 = 0)) (
 some [.b true]) (
 ifB (decide (x18 = x14)) (
 lenN L6 fun len5 =>
 lenN x9 fun len6 =>
 lenN L5 fun len7 =>
 some [.b (decide ((IntKind.wrap .i64 ((len5 : Int) + (len6 : Int))) = (len7 : Int)))]) (
 some [.b false]))) (
 some [.b false])) (
 some [.b false])) fun vs7 =>
 gC vs7 fun m48 msA51 =>
 gB m48 fun x23 =>
 gN msA51 <|
 some (.b x23))
theorem linkL11WatchCancels (a a1 a2 : MV) : bodyK cxL11WatchCancels [] none Tryd.f7 [a, a1, a2] = dL11WatchCancels a a1 a2 := by kernel_rfl
noncomputable def gL11WatchCancels : Nat → List MV → Option MV := addG 7 (lst3 dL11WatchCancels) gWatchCancel
theorem soundL11WatchCancels : SoundG Tryd.prog cx gL11WatchCancels :=
  soundWatchCancel.fn (c' := cxL11WatchCancels) (caps := []) ⟨rfl, rfl, rfl, rfl, rfl, rfl, rfl, rfl, rfl⟩ rfl tab_ok eq_ok fk_ok mt_ok mix_ok dels_ok Tryd.func7 (by kernel_rfl) (fun _ => rfl) (lst3_of linkL11WatchCancels)
end Dn.S
