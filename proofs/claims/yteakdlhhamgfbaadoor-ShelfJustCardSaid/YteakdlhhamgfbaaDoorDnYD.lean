import Derived.Test.YteakdlhhamgfbaaDoorDnYTab
import Derived.Test.YteakdlhhamgfbaaDoorDnC
import Derived.Test.YteakdlhhamgfbaaDoorDnD
import Derived.Test.YteakdlhhamgfbaaDoorDnYT
import Derived.KernelRfl
import Derived.Test.YteakdlhhamgfbaaDoorProg
/-
  The functions, on plain values, and their contracts. Conditions: none.
-/
open Go Dn Go.Proofs
set_option linter.unusedVariables false
set_option linter.unusedSimpArgs false
set_option maxRecDepth 100000
namespace Dn.S
theorem tab_ok : TIok Tryd.prog (lookT tiTab) := tabB_ok (by kernel_rfl)
theorem eq_ok : EqOK Tryd.prog (lookT tiTab) := eqTabB_ok (by kernel_rfl)
theorem mix_ok : Tryd.prog.follows .mixedOrders = true := by kernel_rfl
def lookH : List (Nat × Hint) → Nat → Hint
  | [], _ => default
  | (k, s) :: r, t => bif Nat.beq k t then s else lookH r t
def lookL : List (Nat × List Nat) → Nat → List Nat
  | [], _ => []
  | (k, s) :: r, t => bif Nat.beq k t then s else lookL r t
def lookN : List (Nat × Nat) → Nat → Nat
  | [], _ => 0
  | (k, s) :: r, t => bif Nat.beq k t then s else lookN r t
def kk (n : Nat) : Nat := n
def gv (n : Nat) : Bool := nmem [101, 104] n
def frs (n : Nat) : Bool := nmem [87, 101, 102, 104, 106] n
def ftyOf : List (Nat × Nat) := [(87, 48), (101, 92), (102, 92), (104, 92), (106, 9)]
def lookF : List (Nat × FloatKind) → Nat → Option FloatKind
  | [], _ => none
  | (k, s) :: r, t => bif Nat.beq k t then some s else lookF r t
def fkTab : List (Nat × FloatKind) := []
theorem fk_ok : ∀ t k, lookF fkTab t = some k → Tryd.prog.underlying t = some (.float k) := by
  intro t k h
  cases h
def mtTab : List (Nat × (Nat × Bool)) := [(133, (48, true))]
def cx : Ctx := ⟨lookT tiTab, kk, fun _ _ => none, gv, frs, lookN ftyOf, 0, [], [], fun _ => [], lookF fkTab, lookM mtTab, fun _ => [], fun _ => default, fun _ => default, fun _ => default⟩
theorem mt_ok : MapTys Tryd.prog cx := mapTabB_ok (l := mtTab) (by kernel_rfl) (fun _ _ h => h)
def tiAt (t : Nat) : TI := match lookT tiTab t with | some I => I | none => ⟨false, 0, 0, [], [], [], [], 0, []⟩
theorem tv9 : cx.tv 9 = some (tiAt 9) := by kernel_rfl
theorem tv78 : cx.tv 78 = some (tiAt 78) := by kernel_rfl
theorem tv92 : cx.tv 92 = some (tiAt 92) := by kernel_rfl
def lays160_ren : Go.Shelf.Ren := ⟨fun | 160 => 80 | 232 => 112 | 231 => 111 | 227 => 113 | 234 => 115 | 233 => 114 | 236 => 117 | 235 => 116 | 228 => 134 | 271 => 136 | 151 => 83 | 197 => 135 | 120 => 150 | 152 => 119 | 260 => 149 | 137 => 138 | 119 => 139 | 224 => 140 | 225 => 141 | 217 => 151 | 266 => 156 | n => n, fun | 9 => 9 | 4 => 4 | 3 => 3 | 5 => 5 | 117 => 156 | 116 => 155 | 0 => 0 | 124 => 159 | 21 => 21 | 105 => 174 | 46 => 178 | 119 => 182 | 139 => 185 | 138 => 184 | n => n, fun | 3 => 1 | 4 => 2 | n => n⟩
theorem lays160 : Go.Proofs.Lays.n160 Tryd.prog lays160_ren := {
  mixed := by kernel_rfl
  f119 := Tryd.func139.trans (congrArg some (by kernel_rfl))
  f120 := Tryd.func150.trans (congrArg some (by kernel_rfl))
  f137 := Tryd.func138.trans (congrArg some (by kernel_rfl))
  f151 := Tryd.func83.trans (congrArg some (by kernel_rfl))
  f152 := Tryd.func119.trans (congrArg some (by kernel_rfl))
  f160 := Tryd.func80.trans (congrArg some (by kernel_rfl))
  f197 := Tryd.func135.trans (congrArg some (by kernel_rfl))
  f217 := Tryd.func151.trans (congrArg some (by kernel_rfl))
  f224 := Tryd.func140.trans (congrArg some (by kernel_rfl))
  f225 := Tryd.func141.trans (congrArg some (by kernel_rfl))
  f227 := Tryd.func113.trans (congrArg some (by kernel_rfl))
  f228 := Tryd.func134.trans (congrArg some (by kernel_rfl))
  f231 := Tryd.func111.trans (congrArg some (by kernel_rfl))
  f232 := Tryd.func112.trans (congrArg some (by kernel_rfl))
  f233 := Tryd.func114.trans (congrArg some (by kernel_rfl))
  f234 := Tryd.func115.trans (congrArg some (by kernel_rfl))
  f235 := Tryd.func116.trans (congrArg some (by kernel_rfl))
  f236 := Tryd.func117.trans (congrArg some (by kernel_rfl))
  f260 := Tryd.func149.trans (congrArg some (by kernel_rfl))
  f266 := Tryd.func156.trans (congrArg some (by kernel_rfl))
  f271 := Tryd.func136.trans (congrArg some (by kernel_rfl))
  t0 := Tryd.underlying0
  a0 := Tryd.isAgg0
  z0 := Tryd.sizeOf0
  v0 := Tryd.zeroValue0
  t3 := Tryd.underlying3
  a3 := Tryd.isAgg3
  z3 := Tryd.sizeOf3
  v3 := Tryd.zeroValue3
  t4 := Tryd.underlying4
  a4 := Tryd.isAgg4
  z4 := Tryd.sizeOf4
  v4 := Tryd.zeroValue4
  t5 := Tryd.underlying5
  a5 := Tryd.isAgg5
  z5 := Tryd.sizeOf5
  v5 := Tryd.zeroValue5
  t9 := Tryd.underlying9
  a9 := Tryd.isAgg9
  z9 := Tryd.sizeOf9
  v9 := Tryd.zeroValue9
  t21 := Tryd.underlying21
  a21 := Tryd.isAgg21
  z21 := Tryd.sizeOf21
  v21 := Tryd.zeroValue21
  t46 := Tryd.underlying178
  a46 := Tryd.isAgg178
  z46 := Tryd.sizeOf178
  v46 := Tryd.zeroValue178
  t105 := Tryd.underlying174
  a105 := Tryd.isAgg174
  z105 := Tryd.sizeOf174
  v105 := Tryd.zeroValue174
  t116 := Tryd.underlying155
  a116 := Tryd.isAgg155
  z116 := Tryd.sizeOf155
  t117 := Tryd.underlying156
  a117 := Tryd.isAgg156
  z117 := Tryd.sizeOf156
  v117 := Tryd.zeroValue156
  t119 := Tryd.underlying182
  a119 := Tryd.isAgg182
  z119 := Tryd.sizeOf182
  t124 := Tryd.underlying159
  a124 := Tryd.isAgg159
  z124 := Tryd.sizeOf159
  v124 := Tryd.zeroValue159
  t138 := Tryd.underlying184
  a138 := Tryd.isAgg184
  z138 := Tryd.sizeOf184
  v138 := Tryd.zeroValue184
  t139 := Tryd.underlying185
  a139 := Tryd.isAgg185
  z139 := Tryd.sizeOf185
  v139 := Tryd.zeroValue185
  g3 := by kernel_rfl
  g4 := by kernel_rfl }
def lays151_ren : Go.Shelf.Ren := ⟨fun | 151 => 83 | 152 => 119 | 137 => 138 | 119 => 139 | 224 => 140 | 225 => 141 | 217 => 151 | 266 => 156 | n => n, fun | 9 => 9 | 21 => 21 | 4 => 4 | 3 => 3 | 5 => 5 | 0 => 0 | 46 => 178 | n => n, fun | n => n⟩
theorem lays151 : Go.Proofs.Lays.n151 Tryd.prog lays151_ren := {
  mixed := by kernel_rfl
  f119 := Tryd.func139.trans (congrArg some (by kernel_rfl))
  f137 := Tryd.func138.trans (congrArg some (by kernel_rfl))
  f151 := Tryd.func83.trans (congrArg some (by kernel_rfl))
  f152 := Tryd.func119.trans (congrArg some (by kernel_rfl))
  f217 := Tryd.func151.trans (congrArg some (by kernel_rfl))
  f224 := Tryd.func140.trans (congrArg some (by kernel_rfl))
  f225 := Tryd.func141.trans (congrArg some (by kernel_rfl))
  f266 := Tryd.func156.trans (congrArg some (by kernel_rfl))
  t0 := Tryd.underlying0
  a0 := Tryd.isAgg0
  z0 := Tryd.sizeOf0
  v0 := Tryd.zeroValue0
  t3 := Tryd.underlying3
  a3 := Tryd.isAgg3
  z3 := Tryd.sizeOf3
  v3 := Tryd.zeroValue3
  t4 := Tryd.underlying4
  a4 := Tryd.isAgg4
  z4 := Tryd.sizeOf4
  v4 := Tryd.zeroValue4
  t5 := Tryd.underlying5
  a5 := Tryd.isAgg5
  z5 := Tryd.sizeOf5
  v5 := Tryd.zeroValue5
  t9 := Tryd.underlying9
  a9 := Tryd.isAgg9
  z9 := Tryd.sizeOf9
  v9 := Tryd.zeroValue9
  t21 := Tryd.underlying21
  a21 := Tryd.isAgg21
  z21 := Tryd.sizeOf21
  v21 := Tryd.zeroValue21
  t46 := Tryd.underlying178
  a46 := Tryd.isAgg178
  z46 := Tryd.sizeOf178
  v46 := Tryd.zeroValue178 }
def lays146_ren : Go.Shelf.Ren := ⟨fun | 146 => 106 | 221 => 131 | 268 => 146 | 138 => 147 | 143 => 148 | 195 => 153 | 197 => 135 | 218 => 154 | 219 => 155 | 260 => 149 | 217 => 151 | 225 => 141 | 224 => 140 | 267 => 157 | 266 => 156 | 314 => 158 | n => n, fun | 9 => 9 | 31 => 23 | 3 => 3 | 4 => 4 | 0 => 0 | 105 => 174 | 21 => 21 | 5 => 5 | 46 => 178 | 119 => 182 | 139 => 185 | 138 => 184 | 146 => 171 | 51 => 170 | n => n, fun | 1 => 0 | 3 => 1 | 4 => 2 | n => n⟩
theorem lays146 : Go.Proofs.Lays.n146 Tryd.prog lays146_ren := {
  mixed := by kernel_rfl
  f138 := Tryd.func147.trans (congrArg some (by kernel_rfl))
  f143 := Tryd.func148.trans (congrArg some (by kernel_rfl))
  f146 := Tryd.func106.trans (congrArg some (by kernel_rfl))
  f195 := Tryd.func153.trans (congrArg some (by kernel_rfl))
  f197 := Tryd.func135.trans (congrArg some (by kernel_rfl))
  f217 := Tryd.func151.trans (congrArg some (by kernel_rfl))
  f218 := Tryd.func154.trans (congrArg some (by kernel_rfl))
  f219 := Tryd.func155.trans (congrArg some (by kernel_rfl))
  f221 := Tryd.func131.trans (congrArg some (by kernel_rfl))
  f224 := Tryd.func140.trans (congrArg some (by kernel_rfl))
  f225 := Tryd.func141.trans (congrArg some (by kernel_rfl))
  f260 := Tryd.func149.trans (congrArg some (by kernel_rfl))
  f266 := Tryd.func156.trans (congrArg some (by kernel_rfl))
  f267 := Tryd.func157.trans (congrArg some (by kernel_rfl))
  f268 := Tryd.func146.trans (congrArg some (by kernel_rfl))
  f314 := Tryd.func158.trans (congrArg some (by kernel_rfl))
  t0 := Tryd.underlying0
  a0 := Tryd.isAgg0
  z0 := Tryd.sizeOf0
  v0 := Tryd.zeroValue0
  t3 := Tryd.underlying3
  a3 := Tryd.isAgg3
  z3 := Tryd.sizeOf3
  v3 := Tryd.zeroValue3
  t4 := Tryd.underlying4
  a4 := Tryd.isAgg4
  z4 := Tryd.sizeOf4
  v4 := Tryd.zeroValue4
  t5 := Tryd.underlying5
  a5 := Tryd.isAgg5
  z5 := Tryd.sizeOf5
  v5 := Tryd.zeroValue5
  t9 := Tryd.underlying9
  a9 := Tryd.isAgg9
  z9 := Tryd.sizeOf9
  v9 := Tryd.zeroValue9
  t21 := Tryd.underlying21
  a21 := Tryd.isAgg21
  z21 := Tryd.sizeOf21
  v21 := Tryd.zeroValue21
  t31 := Tryd.underlying23
  a31 := Tryd.isAgg23
  z31 := Tryd.sizeOf23
  v31 := Tryd.zeroValue23
  t46 := Tryd.underlying178
  a46 := Tryd.isAgg178
  z46 := Tryd.sizeOf178
  v46 := Tryd.zeroValue178
  t51 := Tryd.underlying170
  a51 := Tryd.isAgg170
  z51 := Tryd.sizeOf170
  v51 := Tryd.zeroValue170
  t105 := Tryd.underlying174
  a105 := Tryd.isAgg174
  z105 := Tryd.sizeOf174
  v105 := Tryd.zeroValue174
  t119 := Tryd.underlying182
  a119 := Tryd.isAgg182
  z119 := Tryd.sizeOf182
  t138 := Tryd.underlying184
  a138 := Tryd.isAgg184
  z138 := Tryd.sizeOf184
  v138 := Tryd.zeroValue184
  t139 := Tryd.underlying185
  a139 := Tryd.isAgg185
  z139 := Tryd.sizeOf185
  v139 := Tryd.zeroValue185
  t146 := Tryd.underlying171
  a146 := Tryd.isAgg171
  z146 := Tryd.sizeOf171
  v146 := Tryd.zeroValue171
  g1 := by kernel_rfl
  g3 := by kernel_rfl
  g4 := by kernel_rfl }
theorem hand80 {g : Nat → List MV → Option MV} (h : SoundG Tryd.prog cx g) : SoundG Tryd.prog cx (addG 80 trimF g) := h.add1 (fun _ => rfl) (fun ms r hr => trim_ok (P := Tryd.prog) (ρ := lays160_ren) (c := cx) lays160 (by kernel_rfl) (by kernel_rfl) hr)
theorem hand83 {g : Nat → List MV → Option MV} (h : SoundG Tryd.prog cx g) : SoundG Tryd.prog cx (addG 83 hasRuneF g) := h.add1 (fun _ => rfl) (fun ms r hr => hasRune_ok (P := Tryd.prog) (ρ := lays151_ren) (c := cx) lays151 (by kernel_rfl) hr)
theorem hand106 {g : Nat → List MV → Option MV} (h : SoundG Tryd.prog cx g) : SoundG Tryd.prog cx (addG 106 splitF g) := h.add1 (fun _ => rfl) (fun ms r hr => split_ok (P := Tryd.prog) (ρ := lays146_ren) (c := cx) lays146 (by kernel_rfl) (by kernel_rfl) (by kernel_rfl) tv9 (by kernel_rfl) hr)
theorem ins101 : InsFn Tryd.prog 101 78 3 4 92 128 Tryd.f101 (fun k => k) (opAt Tryd.f101 noOp) (insTail (opAt Tryd.f101 noOp)) := by
  refine ⟨Tryd.func101, by kernel_rfl, by kernel_rfl, by kernel_rfl, by kernel_rfl, ?_, mix_ok, by kernel_rfl⟩
  exact ⟨⟨by kernel_rfl, by kernel_rfl, by kernel_rfl⟩, ⟨by kernel_rfl, by kernel_rfl, by kernel_rfl⟩, ⟨by kernel_rfl, by kernel_rfl, by kernel_rfl⟩, ⟨by kernel_rfl, by kernel_rfl, by kernel_rfl⟩, ⟨by kernel_rfl, by kernel_rfl, by kernel_rfl⟩, ⟨by kernel_rfl, by kernel_rfl, by kernel_rfl⟩, ⟨by kernel_rfl, by kernel_rfl, by kernel_rfl⟩, ⟨by kernel_rfl, by kernel_rfl, by kernel_rfl⟩, ⟨by kernel_rfl, by kernel_rfl, by kernel_rfl⟩, ⟨by kernel_rfl, by kernel_rfl, by kernel_rfl⟩, ⟨by kernel_rfl, by kernel_rfl, by kernel_rfl⟩, ⟨by kernel_rfl, by kernel_rfl, by kernel_rfl⟩, ⟨by kernel_rfl, by kernel_rfl, by kernel_rfl⟩, ⟨by kernel_rfl, by kernel_rfl, by kernel_rfl⟩, ⟨by kernel_rfl, by kernel_rfl, by kernel_rfl⟩, ⟨by kernel_rfl, by kernel_rfl, by kernel_rfl⟩, ⟨by kernel_rfl, by kernel_rfl, by kernel_rfl⟩, ⟨by kernel_rfl, by kernel_rfl, by kernel_rfl⟩, ⟨by kernel_rfl, by kernel_rfl, by kernel_rfl⟩, ⟨by kernel_rfl, by kernel_rfl, by kernel_rfl⟩, ⟨by kernel_rfl, by kernel_rfl, by kernel_rfl⟩, ⟨by kernel_rfl, by kernel_rfl, by kernel_rfl⟩, ⟨by kernel_rfl, by kernel_rfl, by kernel_rfl⟩, ⟨by kernel_rfl, by kernel_rfl, by kernel_rfl⟩, ⟨by kernel_rfl, by kernel_rfl, by kernel_rfl⟩, ⟨by kernel_rfl, by kernel_rfl, by kernel_rfl⟩, ⟨by kernel_rfl, by kernel_rfl, by kernel_rfl⟩, ⟨by kernel_rfl, by kernel_rfl, by kernel_rfl⟩, ⟨by kernel_rfl, by kernel_rfl, by kernel_rfl⟩, ⟨by kernel_rfl, by kernel_rfl, by kernel_rfl⟩, ⟨by kernel_rfl, by kernel_rfl, by kernel_rfl⟩, ⟨by kernel_rfl, by kernel_rfl, by kernel_rfl⟩, ⟨by kernel_rfl, by kernel_rfl, by kernel_rfl⟩, ⟨by kernel_rfl, by kernel_rfl, by kernel_rfl⟩, ⟨by kernel_rfl, by kernel_rfl, by kernel_rfl⟩, ⟨by kernel_rfl, by kernel_rfl, by kernel_rfl⟩, ⟨by kernel_rfl, by kernel_rfl, by kernel_rfl⟩, ⟨by kernel_rfl, by kernel_rfl, by kernel_rfl⟩, ⟨by kernel_rfl, by kernel_rfl, by kernel_rfl⟩, ⟨by kernel_rfl, by kernel_rfl, by kernel_rfl⟩, ⟨by kernel_rfl, by kernel_rfl, by kernel_rfl⟩, ⟨by kernel_rfl, by kernel_rfl, by kernel_rfl⟩, ⟨by kernel_rfl, by kernel_rfl, by kernel_rfl⟩, ⟨by kernel_rfl, by kernel_rfl, by kernel_rfl⟩, ⟨by kernel_rfl, by kernel_rfl, by kernel_rfl⟩, ⟨by kernel_rfl, by kernel_rfl, by kernel_rfl⟩, ⟨by kernel_rfl, by kernel_rfl, by kernel_rfl⟩, ⟨by kernel_rfl, by kernel_rfl, by kernel_rfl⟩, ⟨by kernel_rfl, by kernel_rfl, by kernel_rfl⟩, ⟨by kernel_rfl, by kernel_rfl, by kernel_rfl⟩, ⟨by kernel_rfl, by kernel_rfl, by kernel_rfl⟩, ⟨by kernel_rfl, by kernel_rfl, by kernel_rfl⟩, ⟨by kernel_rfl, by kernel_rfl, by kernel_rfl⟩, ⟨by kernel_rfl, by kernel_rfl, by kernel_rfl⟩, ⟨by kernel_rfl, by kernel_rfl, by kernel_rfl⟩, ⟨by kernel_rfl, by kernel_rfl, by kernel_rfl⟩, ⟨by kernel_rfl, by kernel_rfl, by kernel_rfl⟩, ⟨by kernel_rfl, by kernel_rfl, by kernel_rfl⟩, ⟨by kernel_rfl, by kernel_rfl, by kernel_rfl⟩, ⟨by kernel_rfl, by kernel_rfl, by kernel_rfl⟩, ⟨by kernel_rfl, by kernel_rfl, by kernel_rfl⟩, ⟨by kernel_rfl, by kernel_rfl, by kernel_rfl⟩, ⟨by kernel_rfl, by kernel_rfl, by kernel_rfl⟩, ⟨by kernel_rfl, by kernel_rfl, by kernel_rfl⟩, ⟨by kernel_rfl, by kernel_rfl, by kernel_rfl⟩, ⟨by kernel_rfl, by kernel_rfl, by kernel_rfl⟩, ⟨by kernel_rfl, by kernel_rfl, by kernel_rfl⟩, ⟨by kernel_rfl, by kernel_rfl, by kernel_rfl⟩, ⟨by kernel_rfl, by kernel_rfl, by kernel_rfl⟩, ⟨by kernel_rfl, by kernel_rfl, by kernel_rfl⟩, ⟨by kernel_rfl, by kernel_rfl, by kernel_rfl⟩, ⟨by kernel_rfl, by kernel_rfl, by kernel_rfl⟩, ⟨by kernel_rfl, by kernel_rfl, by kernel_rfl⟩, ⟨by kernel_rfl, by kernel_rfl, by kernel_rfl⟩, ⟨by kernel_rfl, by kernel_rfl, by kernel_rfl⟩, ⟨by kernel_rfl, by kernel_rfl, by kernel_rfl⟩, ⟨by kernel_rfl, by kernel_rfl, by kernel_rfl⟩, ⟨by kernel_rfl, by kernel_rfl, by kernel_rfl⟩, ⟨by kernel_rfl, by kernel_rfl, by kernel_rfl⟩, ⟨by kernel_rfl, by kernel_rfl, by kernel_rfl⟩, ⟨by kernel_rfl, by kernel_rfl, by kernel_rfl⟩, ⟨by kernel_rfl, by kernel_rfl, by kernel_rfl⟩, ⟨by kernel_rfl, by kernel_rfl, by kernel_rfl⟩, by kernel_rfl, by kernel_rfl⟩
theorem ov101 : ∀ args w, (callFunc 128 args).run Tryd.prog w = ((Extern.SlicesOverlaps.overlaps #[78, 78] #[4] args).run Tryd.prog w).andThen fun v w' => .ok (.value v) w' := fun args w => run_callFunc_extern Tryd.func128 (by kernel_rfl) (by kernel_rfl) (by kernel_rfl) (e := Extern.SlicesOverlaps.overlaps #[78, 78] #[4]) (by kernel_rfl) args w
theorem hand101 {g : Nat → List MV → Option MV} (h : SoundG Tryd.prog cx g) : SoundG Tryd.prog cx (addG 101 (insertF 48) g) := h.add1 (fun _ => rfl) (fun ms r hr => by
  obtain ⟨xs, ys, i, rfl, rfl, h1, h2, h3⟩ := insertF_some hr
  exact insert_ok (P := Tryd.prog) (c := cx) (I := tiAt 78) (E := tiAt 92) ins101 tab_ok tv78 (by kernel_rfl) tv92 (Nat.le_of_ble_eq_true (by kernel_rfl)) (by kernel_rfl) (by kernel_rfl) (by kernel_rfl) (by kernel_rfl) ov101 h1 h2 (by rw [show (tiAt 92).bytes = 48 by kernel_rfl]; exact h3))
theorem hand102 {g : Nat → List MV → Option MV} (h : SoundG Tryd.prog cx g) : SoundG Tryd.prog cx (addG 102 (cloneF 4 48) g) := h.add1 (fun _ => rfl) (fun ms r hr => by
  obtain ⟨xs, rfl, rfl, h1, h2⟩ := cloneF_some hr
  exact clone_ok (P := Tryd.prog) (c := cx) (f := 102) (fn := Tryd.f102) (t := 78) (I := tiAt 78) (E := tiAt 92) (i0 := 0) (i1 := 1) (i2 := 2) (i3 := 3) (oA := opAt Tryd.f102 noOp 0) (oB := opAt Tryd.f102 noOp 1) (oC := opAt Tryd.f102 noOp 2) (oD := opAt Tryd.f102 noOp 3) (oE := opAt Tryd.f102 noOp 4) (oF := opAt Tryd.f102 noOp 5) (oG := opAt Tryd.f102 noOp 6) (oH := opAt Tryd.f102 noOp 7) tab_ok tv78 (by kernel_rfl) tv92 (Nat.le_of_ble_eq_true (by kernel_rfl)) (by kernel_rfl) (by kernel_rfl) Tryd.func102 (by kernel_rfl) (by kernel_rfl) (by kernel_rfl) (by kernel_rfl)
    ⟨by kernel_rfl, by kernel_rfl, by kernel_rfl⟩ ⟨by kernel_rfl, by kernel_rfl, by kernel_rfl⟩ ⟨by kernel_rfl, by kernel_rfl, by kernel_rfl⟩ ⟨by kernel_rfl, by kernel_rfl, by kernel_rfl⟩ ⟨by kernel_rfl, by kernel_rfl, by kernel_rfl⟩ ⟨by kernel_rfl, by kernel_rfl, by kernel_rfl⟩ ⟨by kernel_rfl, by kernel_rfl, by kernel_rfl⟩ ⟨by kernel_rfl, by kernel_rfl, by kernel_rfl⟩ (by rw [show (tiAt 92).size = 4 by kernel_rfl]; exact h1) (by rw [show (tiAt 92).bytes = 48 by kernel_rfl]; exact h2))
theorem del104 : DelFn Tryd.prog 104 78 3 92 Tryd.f104 (fun k => k) (opAt Tryd.f104 noOp) := by
  refine ⟨Tryd.func104, by kernel_rfl, by kernel_rfl, by kernel_rfl, by kernel_rfl, ?_, mix_ok, by kernel_rfl⟩
  exact ⟨⟨by kernel_rfl, by kernel_rfl, by kernel_rfl⟩, ⟨by kernel_rfl, by kernel_rfl, by kernel_rfl⟩, ⟨by kernel_rfl, by kernel_rfl, by kernel_rfl⟩, ⟨by kernel_rfl, by kernel_rfl, by kernel_rfl⟩, ⟨by kernel_rfl, by kernel_rfl, by kernel_rfl⟩, ⟨by kernel_rfl, by kernel_rfl, by kernel_rfl⟩, ⟨by kernel_rfl, by kernel_rfl, by kernel_rfl⟩, ⟨by kernel_rfl, by kernel_rfl, by kernel_rfl⟩, ⟨by kernel_rfl, by kernel_rfl, by kernel_rfl⟩, ⟨by kernel_rfl, by kernel_rfl, by kernel_rfl⟩, ⟨by kernel_rfl, by kernel_rfl, by kernel_rfl⟩, ⟨by kernel_rfl, by kernel_rfl, by kernel_rfl⟩, ⟨by kernel_rfl, by kernel_rfl, by kernel_rfl⟩, ⟨by kernel_rfl, by kernel_rfl, by kernel_rfl⟩, ⟨by kernel_rfl, by kernel_rfl, by kernel_rfl⟩, ⟨by kernel_rfl, by kernel_rfl, by kernel_rfl⟩, ⟨by kernel_rfl, by kernel_rfl, by kernel_rfl⟩, ⟨by kernel_rfl, by kernel_rfl, by kernel_rfl⟩, ⟨by kernel_rfl, by kernel_rfl, by kernel_rfl⟩, ⟨by kernel_rfl, by kernel_rfl, by kernel_rfl⟩, ⟨by kernel_rfl, by kernel_rfl, by kernel_rfl⟩, ⟨by kernel_rfl, by kernel_rfl, by kernel_rfl⟩, ⟨by kernel_rfl, by kernel_rfl, by kernel_rfl⟩, ⟨by kernel_rfl, by kernel_rfl, by kernel_rfl⟩, ⟨by kernel_rfl, by kernel_rfl, by kernel_rfl⟩, ⟨by kernel_rfl, by kernel_rfl, by kernel_rfl⟩, ⟨by kernel_rfl, by kernel_rfl, by kernel_rfl⟩, ⟨by kernel_rfl, by kernel_rfl, by kernel_rfl⟩, ⟨by kernel_rfl, by kernel_rfl, by kernel_rfl⟩, ⟨by kernel_rfl, by kernel_rfl, by kernel_rfl⟩, ⟨by kernel_rfl, by kernel_rfl, by kernel_rfl⟩, by kernel_rfl⟩
theorem hand104 {g : Nat → List MV → Option MV} (h : SoundG Tryd.prog cx g) : SoundG Tryd.prog cx (addG 104 deleteF g) := h.add1 (fun _ => rfl) (fun ms r hr => by
  obtain ⟨xs, i, j, rfl, rfl, h1, h2⟩ := deleteF_some hr
  exact delete_ok (P := Tryd.prog) (c := cx) (I := tiAt 78) (E := tiAt 92) del104 tab_ok tv78 (by kernel_rfl) tv92 (by kernel_rfl) (by kernel_rfl) (by kernel_rfl) h1 h2)
noncomputable def H80 : Nat → List MV → Option MV := addG 80 trimF (fun _ _ => none)
theorem soundH80 : SoundG Tryd.prog cx H80 := hand80 (SoundG.none _ _)
noncomputable def H83 : Nat → List MV → Option MV := addG 83 hasRuneF H80
theorem soundH83 : SoundG Tryd.prog cx H83 := hand83 soundH80
noncomputable def H101 : Nat → List MV → Option MV := addG 101 (insertF 48) H83
theorem soundH101 : SoundG Tryd.prog cx H101 := hand101 soundH83
noncomputable def H102 : Nat → List MV → Option MV := addG 102 (cloneF 4 48) H101
theorem soundH102 : SoundG Tryd.prog cx H102 := hand102 soundH101
noncomputable def H104 : Nat → List MV → Option MV := addG 104 deleteF H102
theorem soundH104 : SoundG Tryd.prog cx H104 := hand104 soundH102
noncomputable def H106 : Nat → List MV → Option MV := addG 106 splitF H104
theorem soundH106 : SoundG Tryd.prog cx H106 := hand106 soundH104

noncomputable def cxStringsliteHasPrefix : Ctx := ⟨lookT tiTab, kk, H106, gv, frs, lookN ftyOf, 18, [], [], lookL [], lookF fkTab, lookM mtTab, lookL [], lookH [(1, ⟨[0, 1], [], [], [(0, [(4, .sc (.k .b))])], []⟩)], lookH [], lookH []⟩
noncomputable def dStringsliteHasPrefix (sA prefixA : MV) : Option MV :=
 gS sA fun sA1 =>
 gS prefixA fun prefixA1 =>
 bd (
 ifB (decide ((prefixA1.length : Int) ≤ (sA1.length : Int))) (
 chk (decide ((0 : Int) ≤ 0 ∧ (0 : Int) ≤ (prefixA1.length : Int) ∧ (prefixA1.length : Int) ≤ (sA1.length : Int))) <|
 some [.b (decide ((List.drop (Int.toNat 0) (List.take (Int.toNat (prefixA1.length : Int)) sA1)) = prefixA1))]) (
 some [.b false])) fun vs =>
 gC vs fun m msA =>
 gB m fun x =>
 gN msA <|
 some (.b x)
theorem linkStringsliteHasPrefix (sA prefixA : MV) : bodyK cxStringsliteHasPrefix [] none Tryd.f145 [sA, prefixA] = dStringsliteHasPrefix sA prefixA := by kernel_rfl
noncomputable def gStringsliteHasPrefix : Nat → List MV → Option MV := addG 145 (lst2 dStringsliteHasPrefix) H106
theorem soundStringsliteHasPrefix : SoundG Tryd.prog cx gStringsliteHasPrefix :=
  soundH106.fn (c' := cxStringsliteHasPrefix) (caps := []) ⟨rfl, rfl, rfl, rfl, rfl, rfl, rfl⟩ rfl tab_ok eq_ok fk_ok mt_ok mix_ok Tryd.func145 (by kernel_rfl) (fun _ => rfl) (lst2_of linkStringsliteHasPrefix)

noncomputable def cxStringsliteCutPrefix : Ctx := ⟨lookT tiTab, kk, gStringsliteHasPrefix, gv, frs, lookN ftyOf, 15, [], [], lookL [], lookF fkTab, lookM mtTab, lookL [], lookH [], lookH [], lookH []⟩
noncomputable def dStringsliteCutPrefix (sA prefixA : MV) : Option MV :=
 gS sA fun sA1 =>
 gS prefixA fun prefixA1 =>
 bd (dStringsliteHasPrefix (.s sA1) (.s prefixA1)) fun rA =>
 gB rA fun x =>
 ifB (!x) (
 some (.tup [.s sA1, .b false])) (
 chk (decide ((0 : Int) ≤ (prefixA1.length : Int) ∧ (prefixA1.length : Int) ≤ (sA1.length : Int) ∧ (sA1.length : Int) ≤ (sA1.length : Int))) <|
 some (.tup [.s (List.drop (Int.toNat (prefixA1.length : Int)) (List.take (Int.toNat (sA1.length : Int)) sA1)), .b true]))
theorem linkStringsliteCutPrefix (sA prefixA : MV) : bodyK cxStringsliteCutPrefix [] none Tryd.f130 [sA, prefixA] = dStringsliteCutPrefix sA prefixA := by kernel_rfl
noncomputable def gStringsliteCutPrefix : Nat → List MV → Option MV := addG 130 (lst2 dStringsliteCutPrefix) gStringsliteHasPrefix
theorem soundStringsliteCutPrefix : SoundG Tryd.prog cx gStringsliteCutPrefix :=
  soundStringsliteHasPrefix.fn (c' := cxStringsliteCutPrefix) (caps := []) ⟨rfl, rfl, rfl, rfl, rfl, rfl, rfl⟩ rfl tab_ok eq_ok fk_ok mt_ok mix_ok Tryd.func130 (by kernel_rfl) (fun _ => rfl) (lst2_of linkStringsliteCutPrefix)

noncomputable def cxStringsCutPrefix : Ctx := ⟨lookT tiTab, kk, gStringsliteCutPrefix, gv, frs, lookN ftyOf, 11, [], [], lookL [], lookF fkTab, lookM mtTab, lookL [], lookH [], lookH [], lookH []⟩
noncomputable def dStringsCutPrefix (sA prefixA : MV) : Option MV :=
 gS sA fun sA1 =>
 gS prefixA fun prefixA1 =>
 bd (dStringsliteCutPrefix (.s sA1) (.s prefixA1)) fun rA =>
 gT rA fun vs =>
 gC vs fun m msA =>
 gS m fun x =>
 gC msA fun m1 msA1 =>
 gB m1 fun x1 =>
 gN msA1 <|
 some (.tup [.s x, .b x1])
theorem linkStringsCutPrefix (sA prefixA : MV) : bodyK cxStringsCutPrefix [] none Tryd.f105 [sA, prefixA] = dStringsCutPrefix sA prefixA := by kernel_rfl
noncomputable def gStringsCutPrefix : Nat → List MV → Option MV := addG 105 (lst2 dStringsCutPrefix) gStringsliteCutPrefix
theorem soundStringsCutPrefix : SoundG Tryd.prog cx gStringsCutPrefix :=
  soundStringsliteCutPrefix.fn (c' := cxStringsCutPrefix) (caps := []) ⟨rfl, rfl, rfl, rfl, rfl, rfl, rfl⟩ rfl tab_ok eq_ok fk_ok mt_ok mix_ok Tryd.func105 (by kernel_rfl) (fun _ => rfl) (lst2_of linkStringsCutPrefix)

noncomputable def cxPathIsNameF1 : Ctx := ⟨lookT tiTab, kk, gStringsCutPrefix, gv, frs, lookN ftyOf, 6, [], [], lookL [], lookF fkTab, lookM mtTab, lookL [], lookH [], lookH [], lookH []⟩
noncomputable def dPathIsNameF1 (c : MV) : Option MV :=
 gI .i32 c fun c1 =>
 bd (hasRuneF [.s ([97, 98, 99, 100, 101, 102, 103, 104, 105, 106, 107, 108, 109, 110, 111, 112, 113, 114, 115, 116, 117, 118, 119, 120, 121, 122, 48, 49, 50, 51, 52, 53, 54, 55, 56, 57, 45, 95] : List UInt8), .i .i32 c1]) fun rA =>
 gB rA fun x =>
 some (.b (!x))
theorem linkPathIsNameF1 (c : MV) : bodyK cxPathIsNameF1 [] none Tryd.f82 [c] = dPathIsNameF1 c := by kernel_rfl
noncomputable def gPathIsNameF1 : Nat → List MV → Option MV := addG 82 (lst1 dPathIsNameF1) gStringsCutPrefix
theorem soundPathIsNameF1 : SoundG Tryd.prog cx gPathIsNameF1 :=
  soundStringsCutPrefix.fn (c' := cxPathIsNameF1) (caps := []) ⟨rfl, rfl, rfl, rfl, rfl, rfl, rfl⟩ rfl tab_ok eq_ok fk_ok mt_ok mix_ok Tryd.func82 (by kernel_rfl) (fun _ => rfl) (lst1_of linkPathIsNameF1)
noncomputable def preStringsIndexIn : Nat → List MV → Option MV := gPathIsNameF1
theorem atStringsIndexInPathIsNameF1 (x0 : MV) : preStringsIndexIn 82 [x0] = dPathIsNameF1 x0 := by kernel_rfl

noncomputable def cxStringsIndexIn : Ctx := ⟨lookT tiTab, kk, gPathIsNameF1, gv, frs, lookN ftyOf, 21, [], [], lookL [], lookF fkTab, lookM mtTab, lookL [], lookH [], lookH [], lookH [(2, ⟨[1, 2], [], [(10, .mp ⟨true, [], true⟩)], [(1, [(6, .sc (.k (.i .i64)))]), (2, [])], []⟩)]⟩
noncomputable def dStringsIndexIn (sA f truth : MV) : Option MV :=
 gS sA fun sA1 =>
 gR f fun f1 =>
 gB truth fun truth1 =>
 bd (Loop (fun msA =>
 gC msA fun m msA1 =>
 gL m fun es =>
 gN msA1 <|
 ifB (itOk es) (
 gFn f1 fun fn cap =>
 chk (!gv fn) <|
 bd (preStringsIndexIn fn ([.i .i32 (itRune es)] ++ cap)) fun rA =>
 gB rA fun x =>
 ifB (decide (x = truth1)) (
 some (.inr (1, [.i .i64 (itPos es)]))) (
 some (.inl [.list (itStep es)]))) (
 some (.inr (2, [])))) [.list ([.s sA1, .i .i64 0] : List MV)]) fun p =>
 ifB (Nat.beq p.1 2) (
 gN p.2 <|
 some (.i .i64 (-1))) (
 chk (Nat.beq p.1 1) <|
 gC p.2 fun m1 msA2 =>
 gI .i64 m1 fun x1 =>
 gN msA2 <|
 some (.i .i64 x1))
theorem linkStringsIndexIn (sA f truth : MV) : bodyK cxStringsIndexIn [] none Tryd.f137 [sA, f, truth] = dStringsIndexIn sA f truth := by kernel_rfl
noncomputable def gStringsIndexIn : Nat → List MV → Option MV := addG 137 (lst3 dStringsIndexIn) gPathIsNameF1
theorem soundStringsIndexIn : SoundG Tryd.prog cx gStringsIndexIn :=
  soundPathIsNameF1.fn (c' := cxStringsIndexIn) (caps := []) ⟨rfl, rfl, rfl, rfl, rfl, rfl, rfl⟩ rfl tab_ok eq_ok fk_ok mt_ok mix_ok Tryd.func137 (by kernel_rfl) (fun _ => rfl) (lst3_of linkStringsIndexIn)

noncomputable def cxStringsIndexFunc : Ctx := ⟨lookT tiTab, kk, gStringsIndexIn, gv, frs, lookN ftyOf, 8, [], [], lookL [], lookF fkTab, lookM mtTab, lookL [], lookH [], lookH [], lookH []⟩
noncomputable def dStringsIndexFunc (sA f : MV) : Option MV :=
 gS sA fun sA1 =>
 gR f fun f1 =>
 bd (dStringsIndexIn (.s sA1) f1 (.b true)) fun rA =>
 gI .i64 rA fun x =>
 some (.i .i64 x)
theorem linkStringsIndexFunc (sA f : MV) : bodyK cxStringsIndexFunc [] none Tryd.f118 [sA, f] = dStringsIndexFunc sA f := by kernel_rfl
noncomputable def gStringsIndexFunc : Nat → List MV → Option MV := addG 118 (lst2 dStringsIndexFunc) gStringsIndexIn
theorem soundStringsIndexFunc : SoundG Tryd.prog cx gStringsIndexFunc :=
  soundStringsIndexIn.fn (c' := cxStringsIndexFunc) (caps := []) ⟨rfl, rfl, rfl, rfl, rfl, rfl, rfl⟩ rfl tab_ok eq_ok fk_ok mt_ok mix_ok Tryd.func118 (by kernel_rfl) (fun _ => rfl) (lst2_of linkStringsIndexFunc)

noncomputable def cxStringsContainsFunc : Ctx := ⟨lookT tiTab, kk, gStringsIndexFunc, gv, frs, lookN ftyOf, 9, [], [], lookL [], lookF fkTab, lookM mtTab, lookL [], lookH [], lookH [], lookH []⟩
noncomputable def dStringsContainsFunc (sA f : MV) : Option MV :=
 gS sA fun sA1 =>
 gR f fun f1 =>
 bd (dStringsIndexFunc (.s sA1) f1) fun rA =>
 gI .i64 rA fun x =>
 some (.b (decide ((0 : Int) ≤ x)))
theorem linkStringsContainsFunc (sA f : MV) : bodyK cxStringsContainsFunc [] none Tryd.f81 [sA, f] = dStringsContainsFunc sA f := by kernel_rfl
noncomputable def gStringsContainsFunc : Nat → List MV → Option MV := addG 81 (lst2 dStringsContainsFunc) gStringsIndexFunc
theorem soundStringsContainsFunc : SoundG Tryd.prog cx gStringsContainsFunc :=
  soundStringsIndexFunc.fn (c' := cxStringsContainsFunc) (caps := []) ⟨rfl, rfl, rfl, rfl, rfl, rfl, rfl⟩ rfl tab_ok eq_ok fk_ok mt_ok mix_ok Tryd.func81 (by kernel_rfl) (fun _ => rfl) (lst2_of linkStringsContainsFunc)

noncomputable def cxPathIsName : Ctx := ⟨lookT tiTab, kk, gStringsContainsFunc, gv, frs, lookN ftyOf, 20, [], [], lookL [], lookF fkTab, lookM mtTab, lookL [], lookH [(1, ⟨[0], [], [], [(0, [(2, .sc (.k .b))])], []⟩)], lookH [], lookH []⟩
noncomputable def dPathIsName (sA : MV) : Option MV :=
 gS sA fun sA1 =>
 bd (
 ifB (!decide (sA1 = ([] : List UInt8))) (
 ifB (decide ((sA1.length : Int) ≤ 30)) (
 bd (trimF [.s sA1, .s ([97, 98, 99, 100, 101, 102, 103, 104, 105, 106, 107, 108, 109, 110, 111, 112, 113, 114, 115, 116, 117, 118, 119, 120, 121, 122, 48, 49, 50, 51, 52, 53, 54, 55, 56, 57, 45, 95] : List UInt8)]) fun rA =>
 gS rA fun x =>
 ifB (decide (x = ([] : List UInt8))) (
 bd (dStringsContainsFunc (.s sA1) (.func 82 [])) fun rA1 =>
 gB rA1 fun x1 =>
 some [.b (!x1)]) (
 some [.b false])) (
 some [.b false])) (
 some [.b false])) fun vs =>
 gC vs fun m msA =>
 gB m fun x2 =>
 gN msA <|
 some (.b x2)
theorem linkPathIsName (sA : MV) : bodyK cxPathIsName [] none Tryd.f24 [sA] = dPathIsName sA := by kernel_rfl
noncomputable def gPathIsName : Nat → List MV → Option MV := addG 24 (lst1 dPathIsName) gStringsContainsFunc
theorem soundPathIsName : SoundG Tryd.prog cx gPathIsName :=
  soundStringsContainsFunc.fn (c' := cxPathIsName) (caps := []) ⟨rfl, rfl, rfl, rfl, rfl, rfl, rfl⟩ rfl tab_ok eq_ok fk_ok mt_ok mix_ok Tryd.func24 (by kernel_rfl) (fun _ => rfl) (lst1_of linkPathIsName)

noncomputable def cxPathInnerF1 : Ctx := ⟨lookT tiTab, kk, gPathIsName, gv, frs, lookN ftyOf, 6, [], [], lookL [], lookF fkTab, lookM mtTab, lookL [], lookH [], lookH [], lookH []⟩
noncomputable def dPathInnerF1 (sA : MV) : Option MV :=
 gS sA fun sA1 =>
 bd (dPathIsName (.s sA1)) fun rA =>
 gB rA fun x =>
 some (.b (!x))
theorem linkPathInnerF1 (sA : MV) : bodyK cxPathInnerF1 [] none Tryd.f108 [sA] = dPathInnerF1 sA := by kernel_rfl
noncomputable def gPathInnerF1 : Nat → List MV → Option MV := addG 108 (lst1 dPathInnerF1) gPathIsName
theorem soundPathInnerF1 : SoundG Tryd.prog cx gPathInnerF1 :=
  soundPathIsName.fn (c' := cxPathInnerF1) (caps := []) ⟨rfl, rfl, rfl, rfl, rfl, rfl, rfl⟩ rfl tab_ok eq_ok fk_ok mt_ok mix_ok Tryd.func108 (by kernel_rfl) (fun _ => rfl) (lst1_of linkPathInnerF1)
noncomputable def preSlicesIndexFuncString : Nat → List MV → Option MV := gPathInnerF1
theorem atSlicesIndexFuncStringPathInnerF1 (x0 : MV) : preSlicesIndexFuncString 108 [x0] = dPathInnerF1 x0 := by kernel_rfl

noncomputable def cxSlicesIndexFuncString : Ctx := ⟨lookT tiTab, kk, gPathInnerF1, gv, frs, lookN ftyOf, 19, [], [], lookL [], lookF fkTab, lookM mtTab, lookL [], lookH [], lookH [], lookH [(2, ⟨[0, 1, 7], [], [(8, .sc (.k (.i .i64)))], [(1, [(4, .sc (.k (.i .i64)))]), (2, [])], []⟩)]⟩
noncomputable def dSlicesIndexFuncString (sA f : MV) : Option MV :=
 gL sA fun sA1 =>
 gR f fun f1 =>
 lenN sA1 fun len =>
 bd (Loop (fun msA =>
 gC msA fun m msA1 =>
 gI .i64 m fun x =>
 gN msA1 <|
 ifB (decide (x < (len : Int))) (
 idx sA1 x fun y =>
 gS y fun x1 =>
 gFn f1 fun fn cap =>
 chk (!gv fn) <|
 bd (preSlicesIndexFuncString fn ([.s x1] ++ cap)) fun rA =>
 gB rA fun x2 =>
 ifB x2 (
 some (.inr (1, [.i .i64 x]))) (
 some (.inl [.i .i64 (IntKind.wrap .i64 (x + 1))]))) (
 some (.inr (2, [])))) [.i .i64 0]) fun p =>
 ifB (Nat.beq p.1 2) (
 gN p.2 <|
 some (.i .i64 (-1))) (
 chk (Nat.beq p.1 1) <|
 gC p.2 fun m1 msA2 =>
 gI .i64 m1 fun x3 =>
 gN msA2 <|
 some (.i .i64 x3))
theorem linkSlicesIndexFuncString (sA f : MV) : bodyK cxSlicesIndexFuncString [] none Tryd.f132 [sA, f] = dSlicesIndexFuncString sA f := by kernel_rfl
noncomputable def gSlicesIndexFuncString : Nat → List MV → Option MV := addG 132 (lst2 dSlicesIndexFuncString) gPathInnerF1
theorem soundSlicesIndexFuncString : SoundG Tryd.prog cx gSlicesIndexFuncString :=
  soundPathInnerF1.fn (c' := cxSlicesIndexFuncString) (caps := []) ⟨rfl, rfl, rfl, rfl, rfl, rfl, rfl⟩ rfl tab_ok eq_ok fk_ok mt_ok mix_ok Tryd.func132 (by kernel_rfl) (fun _ => rfl) (lst2_of linkSlicesIndexFuncString)

noncomputable def cxSlicesContainsFuncString : Ctx := ⟨lookT tiTab, kk, gSlicesIndexFuncString, gv, frs, lookN ftyOf, 9, [], [], lookL [], lookF fkTab, lookM mtTab, lookL [], lookH [], lookH [], lookH []⟩
noncomputable def dSlicesContainsFuncString (sA f : MV) : Option MV :=
 gL sA fun sA1 =>
 gR f fun f1 =>
 bd (dSlicesIndexFuncString (.list sA1) f1) fun rA =>
 gI .i64 rA fun x =>
 some (.b (decide ((0 : Int) ≤ x)))
theorem linkSlicesContainsFuncString (sA f : MV) : bodyK cxSlicesContainsFuncString [] none Tryd.f107 [sA, f] = dSlicesContainsFuncString sA f := by kernel_rfl
noncomputable def gSlicesContainsFuncString : Nat → List MV → Option MV := addG 107 (lst2 dSlicesContainsFuncString) gSlicesIndexFuncString
theorem soundSlicesContainsFuncString : SoundG Tryd.prog cx gSlicesContainsFuncString :=
  soundSlicesIndexFuncString.fn (c' := cxSlicesContainsFuncString) (caps := []) ⟨rfl, rfl, rfl, rfl, rfl, rfl, rfl⟩ rfl tab_ok eq_ok fk_ok mt_ok mix_ok Tryd.func107 (by kernel_rfl) (fun _ => rfl) (lst2_of linkSlicesContainsFuncString)

noncomputable def cxPathInner : Ctx := ⟨lookT tiTab, kk, gSlicesContainsFuncString, gv, frs, lookN ftyOf, 34, [], [], lookL [], lookF fkTab, lookM mtTab, lookL [], lookH [(7, ⟨[], [], [], [(0, [(2, .sc (.own 24 9 true)), (3, .sc (.k .b)), (6, .sc (.own 24 9 true))])], [24]⟩), (2, ⟨[0, 4, 5], [], [], [(0, [(12, .sc (.k .b))])], [24]⟩)], lookH [], lookH []⟩
noncomputable def dPathInner (p : MV) : Option MV :=
 gS p fun p1 =>
 bd (dStringsCutPrefix (.s p1) (.s ([47] : List UInt8))) fun rA =>
 gT rA fun vs =>
 gC vs fun m msA =>
 gS m fun x =>
 gC msA fun m1 msA1 =>
 gB m1 fun x1 =>
 gN msA1 <|
 bd (
 ifB (!x1) (
 some [.b true]) (
 some [.b (decide ((100 : Int) < (p1.length : Int)))])) fun vs1 =>
 gC vs1 fun m2 msA2 =>
 gB m2 fun x2 =>
 gN msA2 <|
 ifB x2 (
 some (.tup [.list ([] : List MV), .b false])) (
 ifB (decide (x = ([] : List UInt8))) (
 some (.tup [.list ([] : List MV), .b true])) (
 bd (splitF [.s x, .s ([47] : List UInt8)]) fun rA1 =>
 gF rA1 fun xs =>
 bd (
 lenN xs fun len =>
 ifB (decide ((len : Int) ≤ 8)) (
 bd (dSlicesContainsFuncString (.list xs) (.func 108 [])) fun rA2 =>
 gB rA2 fun x3 =>
 some [.list xs, .b (!x3), .list xs]) (
 some [.list xs, .b false, .list xs])) fun vs2 =>
 gC vs2 fun m3 msA3 =>
 gL m3 fun xs1 =>
 gC msA3 fun m4 msA4 =>
 gB m4 fun x4 =>
 gC msA4 fun m5 msA5 =>
 gL m5 fun lA =>
 gN msA5 <|
 some (.tup [.list lA, .b x4])))
theorem linkPathInner (p : MV) : bodyK cxPathInner [] none Tryd.f76 [p] = dPathInner p := by kernel_rfl
noncomputable def gPathInner : Nat → List MV → Option MV := addG 76 (lst1 dPathInner) gSlicesContainsFuncString
theorem soundPathInner : SoundG Tryd.prog cx gPathInner :=
  soundSlicesContainsFuncString.fn (c' := cxPathInner) (caps := []) ⟨rfl, rfl, rfl, rfl, rfl, rfl, rfl⟩ rfl tab_ok eq_ok fk_ok mt_ok mix_ok Tryd.func76 (by kernel_rfl) (fun _ => rfl) (lst1_of linkPathInner)

noncomputable def cxPathRight : Ctx := ⟨lookT tiTab, kk, gPathInner, gv, frs, lookN ftyOf, 11, [], [], lookL [], lookF fkTab, lookM mtTab, lookL [], lookH [], lookH [], lookH []⟩
noncomputable def dPathRight (p : MV) : Option MV :=
 gS p fun p1 =>
 bd (dPathInner (.s p1)) fun rA =>
 gT rA fun vs =>
 gC vs fun m msA =>
 gL m fun x =>
 gC msA fun m1 msA1 =>
 gB m1 fun x1 =>
 gN msA1 <|
 some (.b x1)
theorem linkPathRight (p : MV) : bodyK cxPathRight [] none Tryd.f26 [p] = dPathRight p := by kernel_rfl
noncomputable def gPathRight : Nat → List MV → Option MV := addG 26 (lst1 dPathRight) gPathInner
theorem soundPathRight : SoundG Tryd.prog cx gPathRight :=
  soundPathInner.fn (c' := cxPathRight) (caps := []) ⟨rfl, rfl, rfl, rfl, rfl, rfl, rfl⟩ rfl tab_ok eq_ok fk_ok mt_ok mix_ok Tryd.func26 (by kernel_rfl) (fun _ => rfl) (lst1_of linkPathRight)

noncomputable def cxBytealgLastIndexByteString : Ctx := ⟨lookT tiTab, kk, gPathRight, gv, frs, lookN ftyOf, 19, [], [], lookL [], lookF fkTab, lookM mtTab, lookL [], lookH [], lookH [], lookH [(2, ⟨[0, 1], [], [(5, .sc (.k (.i .i64)))], [(1, [(4, .sc (.k (.i .i64)))]), (2, [])], []⟩)]⟩
noncomputable def dBytealgLastIndexByteString (sA c : MV) : Option MV :=
 gS sA fun sA1 =>
 gI .u8 c fun c1 =>
 bd (Loop (fun msA =>
 gC msA fun m msA1 =>
 gI .i64 m fun i =>
 gN msA1 <|
 ifB (decide ((0 : Int) ≤ i)) (
 chk (decide ((0 : Int) ≤ i ∧ i < (sA1.length : Int))) <|
 ifB (decide (((sA1.getD (Int.toNat i) 0).toNat : Int) = c1)) (
 some (.inr (1, [.i .i64 i]))) (
 some (.inl [.i .i64 (IntKind.wrap .i64 (i - 1))]))) (
 some (.inr (2, [])))) [.i .i64 (IntKind.wrap .i64 ((sA1.length : Int) - 1))]) fun p =>
 ifB (Nat.beq p.1 2) (
 gN p.2 <|
 some (.i .i64 (-1))) (
 chk (Nat.beq p.1 1) <|
 gC p.2 fun m1 msA2 =>
 gI .i64 m1 fun x =>
 gN msA2 <|
 some (.i .i64 x))
theorem linkBytealgLastIndexByteString (sA c : MV) : bodyK cxBytealgLastIndexByteString [] none Tryd.f109 [sA, c] = dBytealgLastIndexByteString sA c := by kernel_rfl
noncomputable def gBytealgLastIndexByteString : Nat → List MV → Option MV := addG 109 (lst2 dBytealgLastIndexByteString) gPathRight
theorem soundBytealgLastIndexByteString : SoundG Tryd.prog cx gBytealgLastIndexByteString :=
  soundPathRight.fn (c' := cxBytealgLastIndexByteString) (caps := []) ⟨rfl, rfl, rfl, rfl, rfl, rfl, rfl⟩ rfl tab_ok eq_ok fk_ok mt_ok mix_ok Tryd.func109 (by kernel_rfl) (fun _ => rfl) (lst2_of linkBytealgLastIndexByteString)

noncomputable def cxBytealgHashStrRevString : Ctx := ⟨lookT tiTab, kk, gBytealgLastIndexByteString, gv, frs, lookN ftyOf, 40, [], [], lookL [], lookF fkTab, lookM mtTab, lookL [], lookH [], lookH [(11, ⟨[4, 7, 8], [], [], [(0, [(6, .sc (.k (.i .u32)))])], []⟩)], lookH [(8, ⟨[4], [], [(6, .sc (.k (.i .u32))), (7, .sc (.k (.i .u32))), (8, .sc (.k (.i .i64)))], [(4, [(6, .sc (.k (.i .u32)))])], []⟩), (3, ⟨[0], [], [(4, .sc (.k (.i .u32))), (5, .sc (.k (.i .i64)))], [(2, [(4, .sc (.k (.i .u32)))])], []⟩)]⟩
noncomputable def dBytealgHashStrRevString (sep : MV) : Option MV :=
 gS sep fun sep1 =>
 bd (Loop (fun msA =>
 gC msA fun m msA1 =>
 gI .u32 m fun hash =>
 gC msA1 fun m1 msA2 =>
 gI .i64 m1 fun i =>
 gN msA2 <|
 ifB (decide ((0 : Int) ≤ i)) (
 chk (decide ((0 : Int) ≤ i ∧ i < (sep1.length : Int))) <|
 some (.inl [.i .u32 (IntKind.wrap .u32 ((IntKind.wrap .u32 (hash * 16777619)) + (IntKind.wrap .u32 ((sep1.getD (Int.toNat i) 0).toNat : Int)))), .i .i64 (IntKind.wrap .i64 (i - 1))])) (
 some (.inr (2, [.i .u32 hash])))) [.i .u32 0, .i .i64 (IntKind.wrap .i64 ((sep1.length : Int) - 1))]) fun p =>
 chk (Nat.beq p.1 2) <|
 gC p.2 fun m2 msA3 =>
 gI .u32 m2 fun hash1 =>
 gN msA3 <|
 bd (Loop (fun msA4 =>
 gC msA4 fun m3 msA5 =>
 gI .u32 m3 fun pow =>
 gC msA5 fun m4 msA6 =>
 gI .u32 m4 fun sq =>
 gC msA6 fun m5 msA7 =>
 gI .i64 m5 fun i1 =>
 gN msA7 <|
 ifB (decide ((0 : Int) < i1)) (
 none) (
 some (.inr (4, [.i .u32 pow])))) [.i .u32 1, .i .u32 16777619, .i .i64 (sep1.length : Int)]) fun p1 =>
 chk (Nat.beq p1.1 4) <|
 gC p1.2 fun m6 msA8 =>
 gI .u32 m6 fun pow1 =>
 gN msA8 <|
 some (.tup [.i .u32 hash1, .i .u32 pow1])
theorem linkBytealgHashStrRevString (sep : MV) : bodyK cxBytealgHashStrRevString [] none Tryd.f133 [sep] = dBytealgHashStrRevString sep := by kernel_rfl
noncomputable def gBytealgHashStrRevString : Nat → List MV → Option MV := addG 133 (lst1 dBytealgHashStrRevString) gBytealgLastIndexByteString
theorem soundBytealgHashStrRevString : SoundG Tryd.prog cx gBytealgHashStrRevString :=
  soundBytealgLastIndexByteString.fn (c' := cxBytealgHashStrRevString) (caps := []) ⟨rfl, rfl, rfl, rfl, rfl, rfl, rfl⟩ rfl tab_ok eq_ok fk_ok mt_ok mix_ok Tryd.func133 (by kernel_rfl) (fun _ => rfl) (lst1_of linkBytealgHashStrRevString)

noncomputable def cxBytealgLastIndexRabinKarpString : Ctx := ⟨lookT tiTab, kk, gBytealgHashStrRevString, gv, frs, lookN ftyOf, 87, [], [], lookL [], lookF fkTab, lookM mtTab, lookL [], lookH [(17, ⟨[0, 1, 5, 6, 7, 9, 11], [], [], [(0, [(85, .sc (.k .b))])], []⟩), (9, ⟨[0, 1, 5, 6, 7, 8, 9], [], [], [(0, [(47, .sc (.k .b))])], []⟩)], lookH [], lookH [(12, ⟨[0, 1, 5, 6, 7], [], [(9, .sc (.k (.i .u32))), (11, .sc (.k (.i .i64)))], [(1, [(4, .sc (.k (.i .i64)))]), (4, [])], []⟩), (6, ⟨[0, 1, 5, 6, 7, 8], [], [(9, .sc (.k (.i .u32))), (10, .sc (.k (.i .i64)))], [(2, [(9, .sc (.k (.i .u32)))])], []⟩)]⟩
noncomputable def dBytealgLastIndexRabinKarpString (a a1 : MV) : Option MV :=
 gS a fun a2 =>
 gS a1 fun a1N1 =>
 bd (dBytealgHashStrRevString (.s a1N1)) fun rA =>
 gT rA fun vs =>
 gC vs fun m msA =>
 gI .u32 m fun x =>
 gC msA fun m1 msA1 =>
 gI .u32 m1 fun x1 =>
 gN msA1 <|
 bd (Loop (fun msA2 =>
 gC msA2 fun m2 msA3 =>
 gI .u32 m2 fun x2 =>
 gC msA3 fun m3 msA4 =>
 gI .i64 m3 fun x3 =>
 gN msA4 <|
 ifB (decide ((IntKind.wrap .i64 ((a2.length : Int) - (a1N1.length : Int))) ≤ x3)) (
 chk (decide ((0 : Int) ≤ x3 ∧ x3 < (a2.length : Int))) <|
 some (.inl [.i .u32 (IntKind.wrap .u32 ((IntKind.wrap .u32 (x2 * 16777619)) + (IntKind.wrap .u32 ((a2.getD (Int.toNat x3) 0).toNat : Int)))), .i .i64 (IntKind.wrap .i64 (x3 - 1))])) (
 some (.inr (2, [.i .u32 x2])))) [.i .u32 0, .i .i64 (IntKind.wrap .i64 ((a2.length : Int) - 1))]) fun p =>
 chk (Nat.beq p.1 2) <|
 gC p.2 fun m4 msA5 =>
 gI .u32 m4 fun x4 =>
 gN msA5 <|
 bd (
 ifB (decide (x4 = x)) (
 chk (decide ((0 : Int) ≤ (IntKind.wrap .i64 ((a2.length : Int) - (a1N1.length : Int))) ∧ (IntKind.wrap .i64 ((a2.length : Int) - (a1N1.length : Int))) ≤ (a2.length : Int) ∧ (a2.length : Int) ≤ (a2.length : Int))) <|
 some [.b (decide ((List.drop (Int.toNat (IntKind.wrap .i64 ((a2.length : Int) - (a1N1.length : Int)))) (List.take (Int.toNat (a2.length : Int)) a2)) = a1N1))]) (
 some [.b false])) fun vs1 =>
 gC vs1 fun m5 msA6 =>
 gB m5 fun x5 =>
 gN msA6 <|
 ifB x5 (
 some (.i .i64 (IntKind.wrap .i64 ((a2.length : Int) - (a1N1.length : Int))))) (
 bd (Loop (fun msA7 =>
 gC msA7 fun m6 msA8 =>
 gI .u32 m6 fun x6 =>
 gC msA8 fun m7 msA9 =>
 gI .i64 m7 fun x7 =>
 gN msA9 <|
 ifB (decide ((0 : Int) ≤ x7)) (
 chk (decide ((0 : Int) ≤ x7 ∧ x7 < (a2.length : Int))) <|
 chk (decide ((0 : Int) ≤ (IntKind.wrap .i64 (x7 + (a1N1.length : Int))) ∧ (IntKind.wrap .i64 (x7 + (a1N1.length : Int))) < (a2.length : Int))) <|
 bd (
 ifB (decide ((IntKind.wrap .u32 ((IntKind.wrap .u32 ((IntKind.wrap .u32 (x6 * 16777619)) + (IntKind.wrap .u32 ((a2.getD (Int.toNat x7) 0).toNat : Int)))) - (IntKind.wrap .u32 (x1 * (IntKind.wrap .u32 ((a2.getD (Int.toNat (IntKind.wrap .i64 (x7 + (a1N1.length : Int)))) 0).toNat : Int)))))) = x)) (
 chk (decide ((0 : Int) ≤ x7 ∧ x7 ≤ (IntKind.wrap .i64 (x7 + (a1N1.length : Int))) ∧ (IntKind.wrap .i64 (x7 + (a1N1.length : Int))) ≤ (a2.length : Int))) <|
 some [.b (decide ((List.drop (Int.toNat x7) (List.take (Int.toNat (IntKind.wrap .i64 (x7 + (a1N1.length : Int)))) a2)) = a1N1))]) (
 some [.b false])) fun vs2 =>
 gC vs2 fun m8 msA10 =>
 gB m8 fun x8 =>
 gN msA10 <|
 ifB x8 (
 some (.inr (1, [.i .i64 x7]))) (
 some (.inl [.i .u32 (IntKind.wrap .u32 ((IntKind.wrap .u32 ((IntKind.wrap .u32 (x6 * 16777619)) + (IntKind.wrap .u32 ((a2.getD (Int.toNat x7) 0).toNat : Int)))) - (IntKind.wrap .u32 (x1 * (IntKind.wrap .u32 ((a2.getD (Int.toNat (IntKind.wrap .i64 (x7 + (a1N1.length : Int)))) 0).toNat : Int)))))), .i .i64 (IntKind.wrap .i64 (x7 - 1))]))) (
 some (.inr (4, [])))) [.i .u32 x4, .i .i64 (IntKind.wrap .i64 ((IntKind.wrap .i64 ((a2.length : Int) - (a1N1.length : Int))) - 1))]) fun p1 =>
 ifB (Nat.beq p1.1 4) (
 gN p1.2 <|
 some (.i .i64 (-1))) (
 chk (Nat.beq p1.1 1) <|
 gC p1.2 fun m9 msA11 =>
 gI .i64 m9 fun x9 =>
 gN msA11 <|
 some (.i .i64 x9)))
theorem linkBytealgLastIndexRabinKarpString (a a1 : MV) : bodyK cxBytealgLastIndexRabinKarpString [] none Tryd.f110 [a, a1] = dBytealgLastIndexRabinKarpString a a1 := by kernel_rfl
noncomputable def gBytealgLastIndexRabinKarpString : Nat → List MV → Option MV := addG 110 (lst2 dBytealgLastIndexRabinKarpString) gBytealgHashStrRevString
theorem soundBytealgLastIndexRabinKarpString : SoundG Tryd.prog cx gBytealgLastIndexRabinKarpString :=
  soundBytealgHashStrRevString.fn (c' := cxBytealgLastIndexRabinKarpString) (caps := []) ⟨rfl, rfl, rfl, rfl, rfl, rfl, rfl⟩ rfl tab_ok eq_ok fk_ok mt_ok mix_ok Tryd.func110 (by kernel_rfl) (fun _ => rfl) (lst2_of linkBytealgLastIndexRabinKarpString)

noncomputable def cxStringsLastIndex : Ctx := ⟨lookT tiTab, kk, gBytealgLastIndexRabinKarpString, gv, frs, lookN ftyOf, 36, [], [], lookL [], lookF fkTab, lookM mtTab, lookL [], lookH [], lookH [], lookH []⟩
noncomputable def dStringsLastIndex (sA substr : MV) : Option MV :=
 gS sA fun sA1 =>
 gS substr fun substr1 =>
 ifB (decide ((substr1.length : Int) = 0)) (
 some (.i .i64 (sA1.length : Int))) (
 ifB (decide ((substr1.length : Int) = 1)) (
 chk (decide ((0 : Int) ≤ 0 ∧ (0 : Int) < (substr1.length : Int))) <|
 bd (dBytealgLastIndexByteString (.s sA1) (.i .u8 ((substr1.getD (Int.toNat 0) 0).toNat : Int))) fun rA =>
 gI .i64 rA fun x =>
 some (.i .i64 x)) (
 ifB (decide ((substr1.length : Int) = (sA1.length : Int))) (
 ifB (decide (substr1 = sA1)) (
 some (.i .i64 0)) (
 some (.i .i64 (-1)))) (
 ifB (decide ((sA1.length : Int) < (substr1.length : Int))) (
 some (.i .i64 (-1))) (
 bd (dBytealgLastIndexRabinKarpString (.s sA1) (.s substr1)) fun rA1 =>
 gI .i64 rA1 fun x1 =>
 some (.i .i64 x1)))))
theorem linkStringsLastIndex (sA substr : MV) : bodyK cxStringsLastIndex [] none Tryd.f78 [sA, substr] = dStringsLastIndex sA substr := by kernel_rfl
noncomputable def gStringsLastIndex : Nat → List MV → Option MV := addG 78 (lst2 dStringsLastIndex) gBytealgLastIndexRabinKarpString
theorem soundStringsLastIndex : SoundG Tryd.prog cx gStringsLastIndex :=
  soundBytealgLastIndexRabinKarpString.fn (c' := cxStringsLastIndex) (caps := []) ⟨rfl, rfl, rfl, rfl, rfl, rfl, rfl⟩ rfl tab_ok eq_ok fk_ok mt_ok mix_ok Tryd.func78 (by kernel_rfl) (fun _ => rfl) (lst2_of linkStringsLastIndex)

noncomputable def cxPathParent : Ctx := ⟨lookT tiTab, kk, gStringsLastIndex, gv, frs, lookN ftyOf, 16, [], [], lookL [], lookF fkTab, lookM mtTab, lookL [], lookH [], lookH [], lookH []⟩
noncomputable def dPathParent (p : MV) : Option MV :=
 gS p fun p1 =>
 bd (dPathRight (.s p1)) fun rA =>
 gB rA fun x =>
 ifB (!x) (
 some (.tup [.s ([] : List UInt8), .i .i64 13])) (
 ifB (decide (p1 = ([47] : List UInt8))) (
 some (.tup [.s ([] : List UInt8), .i .i64 6])) (
 bd (dStringsLastIndex (.s p1) (.s ([47] : List UInt8))) fun rA1 =>
 gI .i64 rA1 fun x1 =>
 chk (decide ((0 : Int) ≤ 0 ∧ (0 : Int) ≤ (imax 1 x1) ∧ (imax 1 x1) ≤ (p1.length : Int))) <|
 some (.tup [.s (List.drop (Int.toNat 0) (List.take (Int.toNat (imax 1 x1)) p1)), .i .i64 0])))
theorem linkPathParent (p : MV) : bodyK cxPathParent [] none Tryd.f22 [p] = dPathParent p := by kernel_rfl
noncomputable def gPathParent : Nat → List MV → Option MV := addG 22 (lst1 dPathParent) gStringsLastIndex
theorem soundPathParent : SoundG Tryd.prog cx gPathParent :=
  soundStringsLastIndex.fn (c' := cxPathParent) (caps := []) ⟨rfl, rfl, rfl, rfl, rfl, rfl, rfl⟩ rfl tab_ok eq_ok fk_ok mt_ok mix_ok Tryd.func22 (by kernel_rfl) (fun _ => rfl) (lst1_of linkPathParent)

noncomputable def cxCmpIsNaNString : Ctx := ⟨lookT tiTab, kk, gPathParent, gv, frs, lookN ftyOf, 6, [], [], lookL [], lookF fkTab, lookM mtTab, lookL [], lookH [], lookH [], lookH []⟩
noncomputable def dCmpIsNaNString (x : MV) : Option MV :=
 gS x fun x1 =>
 some (.b (!decide (x1 = x1)))
theorem linkCmpIsNaNString (x : MV) : bodyK cxCmpIsNaNString [] none Tryd.f142 [x] = dCmpIsNaNString x := by kernel_rfl
noncomputable def gCmpIsNaNString : Nat → List MV → Option MV := addG 142 (lst1 dCmpIsNaNString) gPathParent
theorem soundCmpIsNaNString : SoundG Tryd.prog cx gCmpIsNaNString :=
  soundPathParent.fn (c' := cxCmpIsNaNString) (caps := []) ⟨rfl, rfl, rfl, rfl, rfl, rfl, rfl⟩ rfl tab_ok eq_ok fk_ok mt_ok mix_ok Tryd.func142 (by kernel_rfl) (fun _ => rfl) (lst1_of linkCmpIsNaNString)

noncomputable def cxCmpCompareString : Ctx := ⟨lookT tiTab, kk, gCmpIsNaNString, gv, frs, lookN ftyOf, 20, [], [], lookL [], lookF fkTab, lookM mtTab, lookL [], lookH [], lookH [], lookH []⟩
noncomputable def dCmpCompareString (x y : MV) : Option MV :=
 gS x fun x1 =>
 gS y fun y1 =>
 bd (dCmpIsNaNString (.s x1)) fun rA =>
 gB rA fun x2 =>
 bd (dCmpIsNaNString (.s y1)) fun rA1 =>
 gB rA1 fun x3 =>
 ifB x2 (
 ifB x3 (
 some (.i .i64 0)) (
 some (.i .i64 (-1)))) (
 ifB x3 (
 some (.i .i64 1)) (
 ifB (Op.bytesLess x1 y1) (
 some (.i .i64 (-1))) (
 ifB (!(Op.bytesLess x1 y1 || decide (x1 = y1))) (
 some (.i .i64 1)) (
 some (.i .i64 0)))))
theorem linkCmpCompareString (x y : MV) : bodyK cxCmpCompareString [] none Tryd.f120 [x, y] = dCmpCompareString x y := by kernel_rfl
noncomputable def gCmpCompareString : Nat → List MV → Option MV := addG 120 (lst2 dCmpCompareString) gCmpIsNaNString
theorem soundCmpCompareString : SoundG Tryd.prog cx gCmpCompareString :=
  soundCmpIsNaNString.fn (c' := cxCmpCompareString) (caps := []) ⟨rfl, rfl, rfl, rfl, rfl, rfl, rfl⟩ rfl tab_ok eq_ok fk_ok mt_ok mix_ok Tryd.func120 (by kernel_rfl) (fun _ => rfl) (lst2_of linkCmpCompareString)

noncomputable def cxSlicesCompareString : Ctx := ⟨lookT tiTab, kk, gCmpCompareString, gv, frs, lookN ftyOf, 36, [], [], lookL [], lookF fkTab, lookM mtTab, lookL [], lookH [], lookH [], lookH [(2, ⟨[0, 1, 9, 10], [], [(11, .sc (.k (.i .i64)))], [(1, [(4, .sc (.k (.i .i64)))]), (2, [])], []⟩)]⟩
noncomputable def dSlicesCompareString (s1 s2 : MV) : Option MV :=
 gL s1 fun s1N1 =>
 gL s2 fun s2N1 =>
 lenN s1N1 fun len =>
 bd (Loop (fun msA =>
 gC msA fun m msA1 =>
 gI .i64 m fun x =>
 gN msA1 <|
 ifB (decide (x < (len : Int))) (
 idx s1N1 x fun y =>
 gS y fun x1 =>
 lenN s2N1 fun len1 =>
 ifB (decide ((len1 : Int) ≤ x)) (
 some (.inr (1, [.i .i64 1]))) (
 idx s2N1 x fun y1 =>
 gS y1 fun x2 =>
 bd (dCmpCompareString (.s x1) (.s x2)) fun rA =>
 gI .i64 rA fun x3 =>
 ifB (!decide (x3 = 0)) (
 some (.inr (1, [.i .i64 x3]))) (
 some (.inl [.i .i64 (IntKind.wrap .i64 (x + 1))])))) (
 some (.inr (2, [])))) [.i .i64 0]) fun p =>
 ifB (Nat.beq p.1 2) (
 gN p.2 <|
 lenN s1N1 fun len2 =>
 lenN s2N1 fun len3 =>
 ifB (decide ((len2 : Int) < (len3 : Int))) (
 some (.i .i64 (-1))) (
 some (.i .i64 0))) (
 chk (Nat.beq p.1 1) <|
 gC p.2 fun m1 msA2 =>
 gI .i64 m1 fun x4 =>
 gN msA2 <|
 some (.i .i64 x4))
theorem linkSlicesCompareString (s1 s2 : MV) : bodyK cxSlicesCompareString [] none Tryd.f84 [s1, s2] = dSlicesCompareString s1 s2 := by kernel_rfl
noncomputable def gSlicesCompareString : Nat → List MV → Option MV := addG 84 (lst2 dSlicesCompareString) gCmpCompareString
theorem soundSlicesCompareString : SoundG Tryd.prog cx gSlicesCompareString :=
  soundCmpCompareString.fn (c' := cxSlicesCompareString) (caps := []) ⟨rfl, rfl, rfl, rfl, rfl, rfl, rfl⟩ rfl tab_ok eq_ok fk_ok mt_ok mix_ok Tryd.func84 (by kernel_rfl) (fun _ => rfl) (lst2_of linkSlicesCompareString)

noncomputable def cxPathAhead : Ctx := ⟨lookT tiTab, kk, gSlicesCompareString, gv, frs, lookN ftyOf, 29, [], [], lookL [], lookF fkTab, lookM mtTab, lookL [], lookH [(3, ⟨[5, 6, 7, 8], [], [], [(0, [(4, .sc (.k .b))])], []⟩)], lookH [], lookH []⟩
noncomputable def dPathAhead (p q : MV) : Option MV :=
 gS p fun p1 =>
 gS q fun q1 =>
 bd (dPathInner (.s p1)) fun rA =>
 gT rA fun vs =>
 gC vs fun m msA =>
 gL m fun x =>
 gC msA fun m1 msA1 =>
 gB m1 fun x1 =>
 gN msA1 <|
 bd (dPathInner (.s q1)) fun rA1 =>
 gT rA1 fun vs1 =>
 gC vs1 fun m2 msA2 =>
 gL m2 fun x2 =>
 gC msA2 fun m3 msA3 =>
 gB m3 fun x3 =>
 gN msA3 <|
 bd (
 ifB x1 (
 ifB x3 (
 bd (dSlicesCompareString (.list x) (.list x2)) fun rA2 =>
 gI .i64 rA2 fun x4 =>
 some [.b (decide (x4 < 0))]) (
 some [.b false])) (
 some [.b false])) fun vs2 =>
 gC vs2 fun m4 msA4 =>
 gB m4 fun x5 =>
 gN msA4 <|
 some (.b x5)
theorem linkPathAhead (p q : MV) : bodyK cxPathAhead [] none Tryd.f29 [p, q] = dPathAhead p q := by kernel_rfl
noncomputable def gPathAhead : Nat → List MV → Option MV := addG 29 (lst2 dPathAhead) gSlicesCompareString
theorem soundPathAhead : SoundG Tryd.prog cx gPathAhead :=
  soundSlicesCompareString.fn (c' := cxPathAhead) (caps := []) ⟨rfl, rfl, rfl, rfl, rfl, rfl, rfl⟩ rfl tab_ok eq_ok fk_ok mt_ok mix_ok Tryd.func29 (by kernel_rfl) (fun _ => rfl) (lst2_of linkPathAhead)

noncomputable def cxR08IsName : Ctx := ⟨lookT tiTab, kk, gPathAhead, gv, frs, lookN ftyOf, 47, [], [], lookL [], lookF fkTab, lookM mtTab, lookL [], lookH [(8, ⟨[0], [], [], [(0, [(2, .sc (.k .b))])], []⟩), (5, ⟨[0, 3, 4], [], [], [(0, [(5, .sc (.k .b))])], []⟩)], lookH [], lookH [(2, ⟨[0], [], [(3, .sc (.k (.i .i64)))], [(1, [(2, .sc (.k .b))]), (2, [])], []⟩)]⟩
noncomputable def dR08IsName (sA : MV) : Option MV :=
 gS sA fun sA1 =>
 bd (Loop (fun msA =>
 gC msA fun m msA1 =>
 gI .i64 m fun i =>
 gN msA1 <|
 ifB (decide (i < (sA1.length : Int))) (
 chk (decide ((0 : Int) ≤ i ∧ i < (sA1.length : Int))) <|
 bd (
 ifB (decide ((97 : Int) ≤ ((sA1.getD (Int.toNat i) 0).toNat : Int))) (
 ifB (decide (((sA1.getD (Int.toNat i) 0).toNat : Int) ≤ 122)) (
 some [.b true]) (
 ifB (decide ((48 : Int) ≤ ((sA1.getD (Int.toNat i) 0).toNat : Int))) (
 ifB (decide (((sA1.getD (Int.toNat i) 0).toNat : Int) ≤ 57)) (
 some [.b true]) (
 ifB (decide (((sA1.getD (Int.toNat i) 0).toNat : Int) = 45)) (
 some [.b true]) (
 some [.b (decide (((sA1.getD (Int.toNat i) 0).toNat : Int) = 95))]))) (
 ifB (decide (((sA1.getD (Int.toNat i) 0).toNat : Int) = 45)) (
 some [.b true]) (
 some [.b (decide (((sA1.getD (Int.toNat i) 0).toNat : Int) = 95))])))) (
 ifB (decide ((48 : Int) ≤ ((sA1.getD (Int.toNat i) 0).toNat : Int))) (
 ifB (decide (((sA1.getD (Int.toNat i) 0).toNat : Int) ≤ 57)) (
 some [.b true]) (
 ifB (decide (((sA1.getD (Int.toNat i) 0).toNat : Int) = 45)) (
 some [.b true]) (
 some [.b (decide (((sA1.getD (Int.toNat i) 0).toNat : Int) = 95))]))) (
 ifB (decide (((sA1.getD (Int.toNat i) 0).toNat : Int) = 45)) (
 some [.b true]) (
 some [.b (decide (((sA1.getD (Int.toNat i) 0).toNat : Int) = 95))])))) fun vs =>
 gC vs fun m1 msA2 =>
 gB m1 fun letter =>
 gN msA2 <|
 ifB (!letter) (
 some (.inr (1, [.b false]))) (
 some (.inl [.i .i64 (IntKind.wrap .i64 (i + 1))]))) (
 some (.inr (2, [])))) [.i .i64 0]) fun p =>
 ifB (Nat.beq p.1 2) (
 gN p.2 <|
 bd (
 ifB (decide ((1 : Int) ≤ (sA1.length : Int))) (
 some [.b (decide ((sA1.length : Int) ≤ 30))]) (
 some [.b false])) fun vs1 =>
 gC vs1 fun m2 msA3 =>
 gB m2 fun x =>
 gN msA3 <|
 some (.b x)) (
 chk (Nat.beq p.1 1) <|
 gC p.2 fun m3 msA4 =>
 gB m3 fun x1 =>
 gN msA4 <|
 some (.b x1))
theorem linkR08IsName (sA : MV) : bodyK cxR08IsName [] none Tryd.f25 [sA] = dR08IsName sA := by kernel_rfl
noncomputable def gR08IsName : Nat → List MV → Option MV := addG 25 (lst1 dR08IsName) gPathAhead
theorem soundR08IsName : SoundG Tryd.prog cx gR08IsName :=
  soundPathAhead.fn (c' := cxR08IsName) (caps := []) ⟨rfl, rfl, rfl, rfl, rfl, rfl, rfl⟩ rfl tab_ok eq_ok fk_ok mt_ok mix_ok Tryd.func25 (by kernel_rfl) (fun _ => rfl) (lst1_of linkR08IsName)

noncomputable def cxR08Cut : Ctx := ⟨lookT tiTab, kk, gR08IsName, gv, frs, lookN ftyOf, 46, [32, 43], [], lookL [], lookF fkTab, lookM mtTab, lookL [], lookH [(2, ⟨[0, 4], [7], [], [(0, [(15, .sc (.k .b))])], [7, 32, 38, 43]⟩)], lookH [(11, ⟨[0, 6], [], [], [(0, [(4, .sc (.own 7 9 true)), (5, .sc (.k .s))])], [7, 32, 38, 43]⟩)], lookH [(8, ⟨[0], [], [(4, .sc (.own 7 9 true)), (5, .sc (.k .s)), (6, .sc (.k (.i .i64)))], [(2, [(4, .sc (.own 7 9 true)), (5, .sc (.k .s))])], [7, 32, 38, 43]⟩)]⟩
noncomputable def dR08Cut (p : MV) : Option MV :=
 gS p fun p1 =>
 bd (
 ifB (decide ((p1.length : Int) = 0)) (
 some [.b true]) (
 chk (decide ((0 : Int) ≤ 0 ∧ (0 : Int) < (p1.length : Int))) <|
 some [.b (!decide (((p1.getD (Int.toNat 0) 0).toNat : Int) = 47))])) fun vs =>
 gC vs fun m msA =>
 gB m fun x =>
 gN msA <|
 ifB x (
 some (.tup [.list ([] : List MV), .b false])) (
 ifB (decide (p1 = ([47] : List UInt8))) (
 some (.tup [.list ([] : List MV), .b true])) (
 bd (Loop (fun msA1 =>
 gC msA1 fun m1 msA2 =>
 gL m1 fun out =>
 gC msA2 fun m2 msA3 =>
 gS m2 fun name =>
 gC msA3 fun m3 msA4 =>
 gI .i64 m3 fun i =>
 gN msA4 <|
 ifB (decide (i < (p1.length : Int))) (
 chk (decide ((0 : Int) ≤ i ∧ i < (p1.length : Int))) <|
 bd (
 ifB (decide (((p1.getD (Int.toNat i) 0).toNat : Int) = 47)) (
 lenN out fun len =>
 lenN ([.s name] : List MV) fun len1 =>
 chk (decide ((len + len1) * 16 ≤ 2 ^ 46)) <|
 some (0, [.list (out ++ ([.s name] : List MV)), .s ([] : List UInt8)])) (
 chk (decide ((0 : Int) ≤ i ∧ i < (p1.length : Int))) <|
 bysK ([.i .u8 ((p1.getD (Int.toNat i) 0).toNat : Int)] : List MV) fun bs =>
 chk (decide (name.length + bs.length ≤ 2 ^ 46)) <|
 some (0, [.list out, .s (name ++ bs)]))) fun p3 =>
 chk (Nat.beq p3.1 0) <|
 gC p3.2 fun m4 msA5 =>
 gL m4 fun out1 =>
 gC msA5 fun m5 msA6 =>
 gS m5 fun name1 =>
 gN msA6 <|
 some (.inl [.list out1, .s name1, .i .i64 (IntKind.wrap .i64 (i + 1))])) (
 some (.inr (2, [.list out, .s name])))) [.list ([] : List MV), .s ([] : List UInt8), .i .i64 1]) fun p2 =>
 chk (Nat.beq p2.1 2) <|
 gC p2.2 fun m6 msA7 =>
 gL m6 fun out2 =>
 gC msA7 fun m7 msA8 =>
 gS m7 fun name2 =>
 gN msA8 <|
 lenN out2 fun len2 =>
 lenN ([.s name2] : List MV) fun len3 =>
 chk (decide ((len2 + len3) * 16 ≤ 2 ^ 46)) <|
 some (.tup [.list (out2 ++ ([.s name2] : List MV)), .b true])))
theorem linkR08Cut (p : MV) : bodyK cxR08Cut [] none Tryd.f77 [p] = dR08Cut p := by kernel_rfl
noncomputable def gR08Cut : Nat → List MV → Option MV := addG 77 (lst1 dR08Cut) gR08IsName
theorem soundR08Cut : SoundG Tryd.prog cx gR08Cut :=
  soundR08IsName.fn (c' := cxR08Cut) (caps := []) ⟨rfl, rfl, rfl, rfl, rfl, rfl, rfl⟩ rfl tab_ok eq_ok fk_ok mt_ok mix_ok Tryd.func77 (by kernel_rfl) (fun _ => rfl) (lst1_of linkR08Cut)

noncomputable def cxR08Right : Ctx := ⟨lookT tiTab, kk, gR08Cut, gv, frs, lookN ftyOf, 32, [], [], lookL [], lookF fkTab, lookM mtTab, lookL [], lookH [(9, ⟨[3, 4], [], [], [(0, [(2, .sc (.k .b))])], []⟩)], lookH [], lookH [(5, ⟨[3, 4], [], [(5, .sc (.k (.i .i64)))], [(1, [(2, .sc (.k .b))]), (2, [])], []⟩)]⟩
noncomputable def dR08Right (p : MV) : Option MV :=
 gS p fun p1 =>
 ifB (decide ((100 : Int) < (p1.length : Int))) (
 some (.b false)) (
 bd (dR08Cut (.s p1)) fun rA =>
 gT rA fun vs =>
 gC vs fun m msA =>
 gL m fun x =>
 gC msA fun m1 msA1 =>
 gB m1 fun x1 =>
 gN msA1 <|
 bd (Loop (fun msA2 =>
 gC msA2 fun m2 msA3 =>
 gI .i64 m2 fun i =>
 gN msA3 <|
 lenN x fun len =>
 ifB (decide (i < (len : Int))) (
 idx x i fun y =>
 gS y fun x2 =>
 bd (dR08IsName (.s x2)) fun rA1 =>
 gB rA1 fun x3 =>
 ifB (!x3) (
 some (.inr (1, [.b false]))) (
 some (.inl [.i .i64 (IntKind.wrap .i64 (i + 1))]))) (
 some (.inr (2, [])))) [.i .i64 0]) fun p2 =>
 ifB (Nat.beq p2.1 2) (
 gN p2.2 <|
 bd (
 ifB x1 (
 lenN x fun len1 =>
 some [.b (decide ((len1 : Int) ≤ 8))]) (
 some [.b false])) fun vs1 =>
 gC vs1 fun m3 msA4 =>
 gB m3 fun x4 =>
 gN msA4 <|
 some (.b x4)) (
 chk (Nat.beq p2.1 1) <|
 gC p2.2 fun m4 msA5 =>
 gB m4 fun x5 =>
 gN msA5 <|
 some (.b x5)))
theorem linkR08Right (p : MV) : bodyK cxR08Right [] none Tryd.f27 [p] = dR08Right p := by kernel_rfl
noncomputable def gR08Right : Nat → List MV → Option MV := addG 27 (lst1 dR08Right) gR08Cut
theorem soundR08Right : SoundG Tryd.prog cx gR08Right :=
  soundR08Cut.fn (c' := cxR08Right) (caps := []) ⟨rfl, rfl, rfl, rfl, rfl, rfl, rfl⟩ rfl tab_ok eq_ok fk_ok mt_ok mix_ok Tryd.func27 (by kernel_rfl) (fun _ => rfl) (lst1_of linkR08Right)

noncomputable def cxR08Names : Ctx := ⟨lookT tiTab, kk, gR08Right, gv, frs, lookN ftyOf, 15, [], [], lookL [], lookF fkTab, lookM mtTab, lookL [], lookH [], lookH [], lookH []⟩
noncomputable def dR08Names (p : MV) : Option MV :=
 gS p fun p1 =>
 bd (dR08Right (.s p1)) fun rA =>
 gB rA fun x =>
 ifB (!x) (
 some (.tup [.list ([] : List MV), .i .i64 13])) (
 bd (dR08Cut (.s p1)) fun rA1 =>
 gT rA1 fun vs =>
 gC vs fun m msA =>
 gL m fun x1 =>
 gC msA fun m1 msA1 =>
 gB m1 fun x2 =>
 gN msA1 <|
 some (.tup [.list x1, .i .i64 0]))
theorem linkR08Names (p : MV) : bodyK cxR08Names [] none Tryd.f21 [p] = dR08Names p := by kernel_rfl
noncomputable def gR08Names : Nat → List MV → Option MV := addG 21 (lst1 dR08Names) gR08Right
theorem soundR08Names : SoundG Tryd.prog cx gR08Names :=
  soundR08Right.fn (c' := cxR08Names) (caps := []) ⟨rfl, rfl, rfl, rfl, rfl, rfl, rfl⟩ rfl tab_ok eq_ok fk_ok mt_ok mix_ok Tryd.func21 (by kernel_rfl) (fun _ => rfl) (lst1_of linkR08Names)

noncomputable def cxR08Made : Ctx := ⟨lookT tiTab, kk, gR08Names, gv, frs, lookN ftyOf, 21, [], [], lookL [], lookF fkTab, lookM mtTab, lookL [], lookH [], lookH [], lookH [(3, ⟨[0], [], [(3, .sc (.k .s)), (4, .sc (.k (.i .i64)))], [(2, [(3, .sc (.k .s))])], []⟩)]⟩
noncomputable def dR08Made (lA : MV) : Option MV :=
 gL lA fun lA1 =>
 bd (Loop (fun msA =>
 gC msA fun m msA1 =>
 gS m fun out =>
 gC msA1 fun m1 msA2 =>
 gI .i64 m1 fun i =>
 gN msA2 <|
 lenN lA1 fun len =>
 ifB (decide (i < (len : Int))) (
 chk (decide (out.length + ([47] : List UInt8).length ≤ 2 ^ 46)) <|
 idx lA1 i fun y =>
 gS y fun x =>
 chk (decide ((out ++ ([47] : List UInt8)).length + x.length ≤ 2 ^ 46)) <|
 some (.inl [.s ((out ++ ([47] : List UInt8)) ++ x), .i .i64 (IntKind.wrap .i64 (i + 1))])) (
 some (.inr (2, [.s out])))) [.s ([] : List UInt8), .i .i64 0]) fun p =>
 chk (Nat.beq p.1 2) <|
 gC p.2 fun m2 msA3 =>
 gS m2 fun out1 =>
 gN msA3 <|
 ifB (decide (out1 = ([] : List UInt8))) (
 some (.s ([47] : List UInt8))) (
 some (.s out1))
theorem linkR08Made (lA : MV) : bodyK cxR08Made [] none Tryd.f79 [lA] = dR08Made lA := by kernel_rfl
noncomputable def gR08Made : Nat → List MV → Option MV := addG 79 (lst1 dR08Made) gR08Names
theorem soundR08Made : SoundG Tryd.prog cx gR08Made :=
  soundR08Names.fn (c' := cxR08Made) (caps := []) ⟨rfl, rfl, rfl, rfl, rfl, rfl, rfl⟩ rfl tab_ok eq_ok fk_ok mt_ok mix_ok Tryd.func79 (by kernel_rfl) (fun _ => rfl) (lst1_of linkR08Made)

noncomputable def cxR08Parent : Ctx := ⟨lookT tiTab, kk, gR08Made, gv, frs, lookN ftyOf, 23, [], [], lookL [], lookF fkTab, lookM mtTab, lookL [], lookH [], lookH [], lookH []⟩
noncomputable def dR08Parent (p : MV) : Option MV :=
 gS p fun p1 =>
 bd (dR08Names (.s p1)) fun rA =>
 gT rA fun vs =>
 gC vs fun m msA =>
 gL m fun x =>
 gC msA fun m1 msA1 =>
 gI .i64 m1 fun x1 =>
 gN msA1 <|
 ifB (!decide (x1 = 0)) (
 some (.tup [.s ([] : List UInt8), .i .i64 x1])) (
 lenN x fun len =>
 ifB (decide ((len : Int) = 0)) (
 some (.tup [.s ([] : List UInt8), .i .i64 6])) (
 lenN x fun len1 =>
 lenN x fun len2 =>
 chk (decide ((0 : Int) ≤ 0 ∧ (0 : Int) ≤ (IntKind.wrap .i64 ((len1 : Int) - 1)) ∧ (IntKind.wrap .i64 ((len1 : Int) - 1)) ≤ (len2 : Int))) <|
 bd (dR08Made (.list (List.drop (Int.toNat 0) (List.take (Int.toNat (IntKind.wrap .i64 ((len1 : Int) - 1))) x)))) fun rA1 =>
 gS rA1 fun x2 =>
 some (.tup [.s x2, .i .i64 0])))
theorem linkR08Parent (p : MV) : bodyK cxR08Parent [] none Tryd.f23 [p] = dR08Parent p := by kernel_rfl
noncomputable def gR08Parent : Nat → List MV → Option MV := addG 23 (lst1 dR08Parent) gR08Made
theorem soundR08Parent : SoundG Tryd.prog cx gR08Parent :=
  soundR08Made.fn (c' := cxR08Parent) (caps := []) ⟨rfl, rfl, rfl, rfl, rfl, rfl, rfl⟩ rfl tab_ok eq_ok fk_ok mt_ok mix_ok Tryd.func23 (by kernel_rfl) (fun _ => rfl) (lst1_of linkR08Parent)

noncomputable def cxSlicesEqualString : Ctx := ⟨lookT tiTab, kk, gR08Parent, gv, frs, lookN ftyOf, 26, [], [], lookL [], lookF fkTab, lookM mtTab, lookL [(6, [0, 1, 2, 3, 4, 5, 6, 7, 8])], lookH [], lookH [], lookH [(4, ⟨[0, 1, 12], [], [(13, .sc (.k (.i .i64)))], [(1, [(4, .sc (.k .b))]), (2, [])], []⟩)]⟩
noncomputable def dSlicesEqualString (s1 s2 : MV) : Option MV :=
 gL s1 fun s1N1 =>
 gL s2 fun s2N1 =>
 lenN s1N1 fun len =>
 lenN s2N1 fun len1 =>
 ifB (!decide ((len : Int) = (len1 : Int))) (
 some (.b false)) (
 lenN s1N1 fun len2 =>
 bd (Loop (fun msA =>
 gC msA fun m msA1 =>
 gI .i64 m fun x =>
 gN msA1 <|
 ifB (decide (x < (len2 : Int))) (
 idx s1N1 x fun y =>
 gS y fun x1 =>
 idx s2N1 x fun y1 =>
 gS y1 fun x2 =>
 ifB (!decide (x1 = x2)) (
 some (.inr (1, [.b false]))) (
 some (.inl [.i .i64 (IntKind.wrap .i64 (x + 1))]))) (
 some (.inr (2, [])))) [.i .i64 0]) fun p =>
 ifB (Nat.beq p.1 2) (
 gN p.2 <|
 some (.b true)) (
 chk (Nat.beq p.1 1) <|
 gC p.2 fun m1 msA2 =>
 gB m1 fun x3 =>
 gN msA2 <|
 some (.b x3)))
theorem linkSlicesEqualString (s1 s2 : MV) : bodyK cxSlicesEqualString [] none Tryd.f85 [s1, s2] = dSlicesEqualString s1 s2 := by kernel_rfl
noncomputable def gSlicesEqualString : Nat → List MV → Option MV := addG 85 (lst2 dSlicesEqualString) gR08Parent
theorem soundSlicesEqualString : SoundG Tryd.prog cx gSlicesEqualString :=
  soundR08Parent.fn (c' := cxSlicesEqualString) (caps := []) ⟨rfl, rfl, rfl, rfl, rfl, rfl, rfl⟩ rfl tab_ok eq_ok fk_ok mt_ok mix_ok Tryd.func85 (by kernel_rfl) (fun _ => rfl) (lst2_of linkSlicesEqualString)

noncomputable def cxPathBelow : Ctx := ⟨lookT tiTab, kk, gSlicesEqualString, gv, frs, lookN ftyOf, 38, [], [], lookL [], lookF fkTab, lookM mtTab, lookL [], lookH [(3, ⟨[5, 6, 7, 8], [], [], [(0, [(4, .sc (.k .b))])], []⟩)], lookH [], lookH []⟩
noncomputable def dPathBelow (p q : MV) : Option MV :=
 gS p fun p1 =>
 gS q fun q1 =>
 bd (dPathInner (.s p1)) fun rA =>
 gT rA fun vs =>
 gC vs fun m msA =>
 gL m fun x =>
 gC msA fun m1 msA1 =>
 gB m1 fun x1 =>
 gN msA1 <|
 bd (dPathInner (.s q1)) fun rA1 =>
 gT rA1 fun vs1 =>
 gC vs1 fun m2 msA2 =>
 gL m2 fun x2 =>
 gC msA2 fun m3 msA3 =>
 gB m3 fun x3 =>
 gN msA3 <|
 bd (
 ifB x1 (
 ifB x3 (
 lenN x2 fun len =>
 lenN x fun len1 =>
 ifB (decide ((len1 : Int) < (len : Int))) (
 lenN x fun len2 =>
 lenN x2 fun len3 =>
 chk (decide ((0 : Int) ≤ 0 ∧ (0 : Int) ≤ (len2 : Int) ∧ (len2 : Int) ≤ (len3 : Int))) <|
 bd (dSlicesEqualString (.list x) (.list (List.drop (Int.toNat 0) (List.take (Int.toNat (len2 : Int)) x2)))) fun rA2 =>
 gB rA2 fun x4 =>
 some [.b x4]) (
 some [.b false])) (
 some [.b false])) (
 some [.b false])) fun vs2 =>
 gC vs2 fun m4 msA4 =>
 gB m4 fun x5 =>
 gN msA4 <|
 some (.b x5)
theorem linkPathBelow (p q : MV) : bodyK cxPathBelow [] none Tryd.f30 [p, q] = dPathBelow p q := by kernel_rfl
noncomputable def gPathBelow : Nat → List MV → Option MV := addG 30 (lst2 dPathBelow) gSlicesEqualString
theorem soundPathBelow : SoundG Tryd.prog cx gPathBelow :=
  soundSlicesEqualString.fn (c' := cxPathBelow) (caps := []) ⟨rfl, rfl, rfl, rfl, rfl, rfl, rfl⟩ rfl tab_ok eq_ok fk_ok mt_ok mix_ok Tryd.func30 (by kernel_rfl) (fun _ => rfl) (lst2_of linkPathBelow)

noncomputable def cxL09Few : Ctx := ⟨lookT tiTab, kk, gPathBelow, gv, frs, lookN ftyOf, 33, [], [], lookL [], lookF fkTab, lookM mtTab, lookL [], lookH [(4, ⟨[1, 3], [], [], [(0, [(32, .sc (.k .b))])], []⟩)], lookH [], lookH [(2, ⟨[1], [], [(3, .sc (.k (.i .i64)))], [(1, [(2, .sc (.k .b))]), (2, [])], []⟩)]⟩
noncomputable def dL09Few (sA : MV) : Option MV :=
 gA sA fun cs =>
 gC cs fun m msA =>
 gL m fun L =>
 gN msA <|
 bd (Loop (fun msA1 =>
 gC msA1 fun m1 msA2 =>
 gI .i64 m1 fun i =>
 gN msA2 <|
 lenN L fun len =>
 ifB (decide (i < (len : Int))) (
 bd (
 ifB (decide (i = 60)) (
 some [.b true]) (
 idx L i fun y =>
 gA y fun cs1 =>
 gC cs1 fun m2 msA3 =>
 gS m2 fun Path =>
 gC msA3 fun m3 msA4 =>
 gS m3 fun Value =>
 gC msA4 fun m4 msA5 =>
 gI .i64 m4 fun Version =>
 gC msA5 fun m5 msA6 =>
 gI .i64 m5 fun Owner =>
 gN msA6 <|
 ifB (decide ((200 : Int) < (Path.length : Int))) (
 some [.b true]) (
 idx L i fun y1 =>
 gA y1 fun cs2 =>
 gC cs2 fun m6 msA7 =>
 gS m6 fun Path1 =>
 gC msA7 fun m7 msA8 =>
 gS m7 fun Value1 =>
 gC msA8 fun m8 msA9 =>
 gI .i64 m8 fun Version1 =>
 gC msA9 fun m9 msA10 =>
 gI .i64 m9 fun Owner1 =>
 gN msA10 <|
 some [.b (decide ((1100 : Int) < (Value1.length : Int)))]))) fun vs =>
 gC vs fun m10 msA11 =>
 gB m10 fun x =>
 gN msA11 <|
 ifB x (
 some (.inr (1, [.b false]))) (
 some (.inl [.i .i64 (IntKind.wrap .i64 (i + 1))]))) (
 some (.inr (2, [])))) [.i .i64 0]) fun p =>
 ifB (Nat.beq p.1 2) (
 gN p.2 <|
 some (.b true)) (
 chk (Nat.beq p.1 1) <|
 gC p.2 fun m11 msA12 =>
 gB m11 fun x1 =>
 gN msA12 <|
 some (.b x1))
theorem linkL09Few (sA : MV) : bodyK cxL09Few [] none Tryd.f55 [sA] = dL09Few sA := by kernel_rfl
noncomputable def gL09Few : Nat → List MV → Option MV := addG 55 (lst1 dL09Few) gPathBelow
theorem soundL09Few : SoundG Tryd.prog cx gL09Few :=
  soundPathBelow.fn (c' := cxL09Few) (caps := []) ⟨rfl, rfl, rfl, rfl, rfl, rfl, rfl⟩ rfl tab_ok eq_ok fk_ok mt_ok mix_ok Tryd.func55 (by kernel_rfl) (fun _ => rfl) (lst1_of linkL09Few)

noncomputable def cxShelfNew : Ctx := ⟨lookT tiTab, kk, gL09Few, gv, frs, lookN ftyOf, 4, [], [], lookL [], lookF fkTab, lookM mtTab, lookL [], lookH [], lookH [], lookH []⟩
noncomputable def dShelfNew : Option MV :=
 some (.agg [.list ([.agg [.s ([47] : List UInt8), .s ([] : List UInt8), .i .i64 0, .i .i64 0]] : List MV)])
theorem linkShelfNew : bodyK cxShelfNew [] none Tryd.f62 [] = dShelfNew  := by kernel_rfl
noncomputable def gShelfNew : Nat → List MV → Option MV := addG 62 (lst0 dShelfNew) gL09Few
theorem soundShelfNew : SoundG Tryd.prog cx gShelfNew :=
  soundL09Few.fn (c' := cxShelfNew) (caps := []) ⟨rfl, rfl, rfl, rfl, rfl, rfl, rfl⟩ rfl tab_ok eq_ok fk_ok mt_ok mix_ok Tryd.func62 (by kernel_rfl) (fun _ => rfl) (lst0_of linkShelfNew)

noncomputable def cxShelfShelfPlaceF1 : Ctx := ⟨lookT tiTab, kk, gShelfNew, gv, frs, lookN ftyOf, 15, [], [], lookL [], lookF fkTab, lookM mtTab, lookL [], lookH [], lookH [], lookH []⟩
noncomputable def dShelfShelfPlaceF1 (n p : MV) : Option MV :=
 gA n fun cs =>
 gC cs fun m msA =>
 gS m fun Path =>
 gC msA fun m1 msA1 =>
 gS m1 fun Value =>
 gC msA1 fun m2 msA2 =>
 gI .i64 m2 fun Version =>
 gC msA2 fun m3 msA3 =>
 gI .i64 m3 fun Owner =>
 gN msA3 <|
 gS p fun p1 =>
 ifB (decide (Path = p1)) (
 some (.i .i64 0)) (
 bd (dPathAhead (.s Path) (.s p1)) fun rA =>
 gB rA fun x =>
 ifB x (
 some (.i .i64 (-1))) (
 some (.i .i64 1)))
theorem linkShelfShelfPlaceF1 (n p : MV) : bodyK cxShelfShelfPlaceF1 [] none Tryd.f127 [n, p] = dShelfShelfPlaceF1 n p := by kernel_rfl
noncomputable def gShelfShelfPlaceF1 : Nat → List MV → Option MV := addG 127 (lst2 dShelfShelfPlaceF1) gShelfNew
theorem soundShelfShelfPlaceF1 : SoundG Tryd.prog cx gShelfShelfPlaceF1 :=
  soundShelfNew.fn (c' := cxShelfShelfPlaceF1) (caps := []) ⟨rfl, rfl, rfl, rfl, rfl, rfl, rfl⟩ rfl tab_ok eq_ok fk_ok mt_ok mix_ok Tryd.func127 (by kernel_rfl) (fun _ => rfl) (lst2_of linkShelfShelfPlaceF1)
noncomputable def preSlicesBinarySearchFuncShelfNodeString : Nat → List MV → Option MV := gShelfShelfPlaceF1
theorem atSlicesBinarySearchFuncShelfNodeStringShelfShelfPlaceF1 (x0 x1 : MV) : preSlicesBinarySearchFuncShelfNodeString 127 [x0, x1] = dShelfShelfPlaceF1 x0 x1 := by kernel_rfl

noncomputable def cxSlicesBinarySearchFuncShelfNodeString : Ctx := ⟨lookT tiTab, kk, gShelfShelfPlaceF1, gv, frs, lookN ftyOf, 49, [], [], lookL [], lookF fkTab, lookM mtTab, lookL [], lookH [(8, ⟨[0, 1, 2, 8, 9], [], [], [(0, [(6, .sc (.k (.i .i64))), (7, .sc (.k .b))])], []⟩)], lookH [(6, ⟨[0, 1, 2, 8, 11], [], [], [(0, [(9, .sc (.k (.i .i64))), (10, .sc (.k (.i .i64)))])], []⟩)], lookH [(3, ⟨[0, 1, 2, 8], [], [(9, .sc (.k (.i .i64))), (10, .sc (.k (.i .i64)))], [(2, [(9, .sc (.k (.i .i64)))])], []⟩)]⟩
noncomputable def dSlicesBinarySearchFuncShelfNodeString (x target cmp : MV) : Option MV :=
 gL x fun x1 =>
 gS target fun target1 =>
 gR cmp fun cmp1 =>
 lenN x1 fun len =>
 bd (Loop (fun msA =>
 gC msA fun m msA1 =>
 gI .i64 m fun i =>
 gC msA1 fun m1 msA2 =>
 gI .i64 m1 fun j =>
 gN msA2 <|
 ifB (decide (i < j)) (
 chk (decide ((0 : Int) ≤ 1)) <|
 idx x1 (IntKind.wrap .i64 (Int.fdiv (IntKind.wrap .u64 (IntKind.wrap .i64 (i + j))) (2 ^ min (Int.toNat 1) (IntKind.bits .u64)))) fun y =>
 gA y fun cs =>
 gC cs fun m2 msA3 =>
 gS m2 fun Path =>
 gC msA3 fun m3 msA4 =>
 gS m3 fun Value =>
 gC msA4 fun m4 msA5 =>
 gI .i64 m4 fun Version =>
 gC msA5 fun m5 msA6 =>
 gI .i64 m5 fun Owner =>
 gN msA6 <|
 gFn cmp1 fun fn cap =>
 chk (!gv fn) <|
 bd (preSlicesBinarySearchFuncShelfNodeString fn ([.agg [.s Path, .s Value, .i .i64 Version, .i .i64 Owner], .s target1] ++ cap)) fun rA =>
 gI .i64 rA fun x2 =>
 bd (
 ifB (decide (x2 < 0)) (
 some (0, [.i .i64 (IntKind.wrap .i64 ((IntKind.wrap .i64 (Int.fdiv (IntKind.wrap .u64 (IntKind.wrap .i64 (i + j))) (2 ^ min (Int.toNat 1) (IntKind.bits .u64)))) + 1)), .i .i64 j])) (
 some (0, [.i .i64 i, .i .i64 (IntKind.wrap .i64 (Int.fdiv (IntKind.wrap .u64 (IntKind.wrap .i64 (i + j))) (2 ^ min (Int.toNat 1) (IntKind.bits .u64))))]))) fun p1 =>
 chk (Nat.beq p1.1 0) <|
 gC p1.2 fun m6 msA7 =>
 gI .i64 m6 fun i1 =>
 gC msA7 fun m7 msA8 =>
 gI .i64 m7 fun j1 =>
 gN msA8 <|
 some (.inl [.i .i64 i1, .i .i64 j1])) (
 some (.inr (2, [.i .i64 i])))) [.i .i64 0, .i .i64 (len : Int)]) fun p =>
 chk (Nat.beq p.1 2) <|
 gC p.2 fun m8 msA9 =>
 gI .i64 m8 fun i2 =>
 gN msA9 <|
 bd (
 ifB (decide (i2 < (len : Int))) (
 idx x1 i2 fun y1 =>
 gA y1 fun cs1 =>
 gC cs1 fun m9 msA10 =>
 gS m9 fun Path1 =>
 gC msA10 fun m10 msA11 =>
 gS m10 fun Value1 =>
 gC msA11 fun m11 msA12 =>
 gI .i64 m11 fun Version1 =>
 gC msA12 fun m12 msA13 =>
 gI .i64 m12 fun Owner1 =>
 gN msA13 <|
 gFn cmp1 fun fn1 cap1 =>
 chk (!gv fn1) <|
 bd (preSlicesBinarySearchFuncShelfNodeString fn1 ([.agg [.s Path1, .s Value1, .i .i64 Version1, .i .i64 Owner1], .s target1] ++ cap1)) fun rA1 =>
 gI .i64 rA1 fun x3 =>
 some [.i .i64 i2, .b (decide (x3 = 0))]) (
 some [.i .i64 i2, .b false])) fun vs =>
 gC vs fun m13 msA14 =>
 gI .i64 m13 fun x4 =>
 gC msA14 fun m14 msA15 =>
 gB m14 fun x5 =>
 gN msA15 <|
 some (.tup [.i .i64 x4, .b x5])
theorem linkSlicesBinarySearchFuncShelfNodeString (x target cmp : MV) : bodyK cxSlicesBinarySearchFuncShelfNodeString [] none Tryd.f126 [x, target, cmp] = dSlicesBinarySearchFuncShelfNodeString x target cmp := by kernel_rfl
noncomputable def gSlicesBinarySearchFuncShelfNodeString : Nat → List MV → Option MV := addG 126 (lst3 dSlicesBinarySearchFuncShelfNodeString) gShelfShelfPlaceF1
theorem soundSlicesBinarySearchFuncShelfNodeString : SoundG Tryd.prog cx gSlicesBinarySearchFuncShelfNodeString :=
  soundShelfShelfPlaceF1.fn (c' := cxSlicesBinarySearchFuncShelfNodeString) (caps := []) ⟨rfl, rfl, rfl, rfl, rfl, rfl, rfl⟩ rfl tab_ok eq_ok fk_ok mt_ok mix_ok Tryd.func126 (by kernel_rfl) (fun _ => rfl) (lst3_of linkSlicesBinarySearchFuncShelfNodeString)

noncomputable def cxShelfShelfPlace : Ctx := ⟨lookT tiTab, kk, gSlicesBinarySearchFuncShelfNodeString, gv, frs, lookN ftyOf, 12, [], [], lookL [], lookF fkTab, lookM mtTab, lookL [], lookH [], lookH [], lookH []⟩
noncomputable def dShelfShelfPlace (sA p : MV) : Option MV :=
 gA sA fun cs =>
 gC cs fun m msA =>
 gL m fun L =>
 gN msA <|
 gS p fun p1 =>
 bd (dSlicesBinarySearchFuncShelfNodeString (.list L) (.s p1) (.func 127 [])) fun rA =>
 gT rA fun vs =>
 gC vs fun m1 msA1 =>
 gI .i64 m1 fun x =>
 gC msA1 fun m2 msA2 =>
 gB m2 fun x1 =>
 gN msA2 <|
 some (.tup [.i .i64 x, .b x1])
theorem linkShelfShelfPlace (sA p : MV) : bodyK cxShelfShelfPlace [] none Tryd.f99 [sA, p] = dShelfShelfPlace sA p := by kernel_rfl
noncomputable def gShelfShelfPlace : Nat → List MV → Option MV := addG 99 (lst2 dShelfShelfPlace) gSlicesBinarySearchFuncShelfNodeString
theorem soundShelfShelfPlace : SoundG Tryd.prog cx gShelfShelfPlace :=
  soundSlicesBinarySearchFuncShelfNodeString.fn (c' := cxShelfShelfPlace) (caps := []) ⟨rfl, rfl, rfl, rfl, rfl, rfl, rfl⟩ rfl tab_ok eq_ok fk_ok mt_ok mix_ok Tryd.func99 (by kernel_rfl) (fun _ => rfl) (lst2_of linkShelfShelfPlace)

noncomputable def cxShelfShelfFind : Ctx := ⟨lookT tiTab, kk, gShelfShelfPlace, gv, frs, lookN ftyOf, 20, [], [], lookL [], lookF fkTab, lookM mtTab, lookL [], lookH [], lookH [], lookH []⟩
noncomputable def dShelfShelfFind (sA p : MV) : Option MV :=
 gA sA fun cs =>
 gC cs fun m msA =>
 gL m fun L =>
 gN msA <|
 gS p fun p1 =>
 bd (dPathRight (.s p1)) fun rA =>
 gB rA fun x =>
 ifB (!x) (
 some (.tup [.i .i64 0, .i .i64 13])) (
 bd (dShelfShelfPlace (.agg [.list L]) (.s p1)) fun rA1 =>
 gT rA1 fun vs =>
 gC vs fun m1 msA1 =>
 gI .i64 m1 fun x1 =>
 gC msA1 fun m2 msA2 =>
 gB m2 fun x2 =>
 gN msA2 <|
 ifB (!x2) (
 some (.tup [.i .i64 0, .i .i64 6])) (
 some (.tup [.i .i64 x1, .i .i64 0])))
theorem linkShelfShelfFind (sA p : MV) : bodyK cxShelfShelfFind [] none Tryd.f97 [sA, p] = dShelfShelfFind sA p := by kernel_rfl
noncomputable def gShelfShelfFind : Nat → List MV → Option MV := addG 97 (lst2 dShelfShelfFind) gShelfShelfPlace
theorem soundShelfShelfFind : SoundG Tryd.prog cx gShelfShelfFind :=
  soundShelfShelfPlace.fn (c' := cxShelfShelfFind) (caps := []) ⟨rfl, rfl, rfl, rfl, rfl, rfl, rfl⟩ rfl tab_ok eq_ok fk_ok mt_ok mix_ok Tryd.func97 (by kernel_rfl) (fun _ => rfl) (lst2_of linkShelfShelfFind)

noncomputable def cxShelfGet : Ctx := ⟨lookT tiTab, kk, gShelfShelfFind, gv, frs, lookN ftyOf, 23, [], [], lookL [], lookF fkTab, lookM mtTab, lookL [], lookH [], lookH [], lookH []⟩
noncomputable def dShelfGet (sA p : MV) : Option MV :=
 gA sA fun cs =>
 gC cs fun m msA =>
 gL m fun L =>
 gN msA <|
 gS p fun p1 =>
 bd (dShelfShelfFind (.agg [.list L]) (.s p1)) fun rA =>
 gT rA fun vs =>
 gC vs fun m1 msA1 =>
 gI .i64 m1 fun x =>
 gC msA1 fun m2 msA2 =>
 gI .i64 m2 fun x1 =>
 gN msA2 <|
 ifB (!decide (x1 = 0)) (
 some (.tup [.agg [.s ([] : List UInt8), .s ([] : List UInt8), .i .i64 0, .i .i64 0], .i .i64 x1])) (
 idx L x fun y =>
 gA y fun cs1 =>
 gC cs1 fun m3 msA3 =>
 gS m3 fun Path =>
 gC msA3 fun m4 msA4 =>
 gS m4 fun Value =>
 gC msA4 fun m5 msA5 =>
 gI .i64 m5 fun Version =>
 gC msA5 fun m6 msA6 =>
 gI .i64 m6 fun Owner =>
 gN msA6 <|
 some (.tup [.agg [.s Path, .s Value, .i .i64 Version, .i .i64 Owner], .i .i64 0]))
theorem linkShelfGet (sA p : MV) : bodyK cxShelfGet [] none Tryd.f64 [sA, p] = dShelfGet sA p := by kernel_rfl
noncomputable def gShelfGet : Nat → List MV → Option MV := addG 64 (lst2 dShelfGet) gShelfShelfFind
theorem soundShelfGet : SoundG Tryd.prog cx gShelfGet :=
  soundShelfShelfFind.fn (c' := cxShelfGet) (caps := []) ⟨rfl, rfl, rfl, rfl, rfl, rfl, rfl⟩ rfl tab_ok eq_ok fk_ok mt_ok mix_ok Tryd.func64 (by kernel_rfl) (fun _ => rfl) (lst2_of linkShelfGet)

noncomputable def cxShelfCreateF1 : Ctx := ⟨lookT tiTab, kk, gShelfGet, gv, frs, lookN ftyOf, 44, [], [], lookL [], lookF fkTab, lookM mtTab, lookL [], lookH [], lookH [], lookH []⟩
noncomputable def dShelfCreateF1 (c c1 c2 c3 c4 : MV) : Option MV :=
 gP c fun cs =>
 gC cs fun m msA =>
 gS m fun x =>
 gN msA <|
 gP c1 fun cs1 =>
 gC cs1 fun m1 msA1 =>
 gB m1 fun x1 =>
 gN msA1 <|
 gP c2 fun cs2 =>
 gC cs2 fun m2 msA2 =>
 gL m2 fun L =>
 gN msA2 <|
 gP c3 fun cs3 =>
 gC cs3 fun m3 msA3 =>
 gS m3 fun x2 =>
 gN msA3 <|
 gP c4 fun cs4 =>
 gC cs4 fun m4 msA4 =>
 gI .i64 m4 fun x3 =>
 gN msA4 <|
 bd (dPathRight (.s x)) fun rA =>
 gB rA fun x4 =>
 ifB (!x4) (
 some (.i .i64 13)) (
 ifB x1 (
 some (.i .i64 7)) (
 bd (dPathParent (.s x)) fun rA1 =>
 gT rA1 fun vs =>
 gC vs fun m5 msA5 =>
 gS m5 fun x5 =>
 gC msA5 fun m6 msA6 =>
 gI .i64 m6 fun x6 =>
 gN msA6 <|
 bd (dShelfGet (.agg [.list L]) (.s x5)) fun rA2 =>
 gT rA2 fun vs1 =>
 gC vs1 fun m7 msA7 =>
 gA m7 fun cs5 =>
 gC cs5 fun m8 msA8 =>
 gS m8 fun Path =>
 gC msA8 fun m9 msA9 =>
 gS m9 fun Value =>
 gC msA9 fun m10 msA10 =>
 gI .i64 m10 fun Version =>
 gC msA10 fun m11 msA11 =>
 gI .i64 m11 fun Owner =>
 gN msA11 <|
 gC msA7 fun m12 msA12 =>
 gI .i64 m12 fun x7 =>
 gN msA12 <|
 ifB (!decide (x7 = 0)) (
 some (.i .i64 6)) (
 ifB (!decide (Owner = 0)) (
 some (.i .i64 10)) (
 ifB (decide ((1000 : Int) < (x2.length : Int))) (
 some (.i .i64 5)) (
 ifB (decide (x3 < 0)) (
 some (.i .i64 1)) (
 lenN L fun len =>
 ifB (decide ((200 : Int) ≤ (len : Int))) (
 some (.i .i64 9)) (
 some (.i .i64 0))))))))
theorem linkShelfCreateF1 (c c1 c2 c3 c4 : MV) : bodyK cxShelfCreateF1 [[.s], [.b], [.l], [.s], [.i .i64]] none Tryd.f100 [c, c1, c2, c3, c4] = dShelfCreateF1 c c1 c2 c3 c4 := by kernel_rfl
noncomputable def gShelfCreateF1 : Nat → List MV → Option MV := addG 100 (lst5 dShelfCreateF1) gShelfGet
theorem soundShelfCreateF1 : SoundG Tryd.prog cx gShelfCreateF1 :=
  soundShelfGet.fn (c' := cxShelfCreateF1) (caps := [[.s], [.b], [.l], [.s], [.i .i64]]) ⟨rfl, rfl, rfl, rfl, rfl, rfl, rfl⟩ rfl tab_ok eq_ok fk_ok mt_ok mix_ok Tryd.func100 (by kernel_rfl) (fun _ => rfl) (lst5_of linkShelfCreateF1)

noncomputable def cxShelfCreate : Ctx := ⟨lookT tiTab, kk, gShelfCreateF1, gv, frs, lookN ftyOf, 38, [], [], lookL [], lookF fkTab, lookM mtTab, lookL [(6, [0, 1, 3, 4, 5, 6, 7, 2, 8, 9, 10, 11, 12, 0, 1, 3, 4, 5, 6, 7, 8, 2, 9, 10, 11, 12, 2, 8])], lookH [], lookH [], lookH []⟩
noncomputable def dShelfCreate (sA p value owner : MV) : Option MV :=
 gA sA fun cs =>
 gC cs fun m msA =>
 gL m fun L =>
 gN msA <|
 gS p fun p1 =>
 gS value fun value1 =>
 gI .i64 owner fun owner1 =>
 bd (dShelfShelfPlace (.agg [.list L]) (.s p1)) fun rA =>
 gT rA fun vs =>
 gC vs fun m1 msA1 =>
 gI .i64 m1 fun x =>
 gC msA1 fun m2 msA2 =>
 gB m2 fun x1 =>
 gN msA2 <|
 bd (dShelfCreateF1 (.rp [.s p1]) (.rp [.b x1]) (.rp [.list L]) (.rp [.s value1]) (.rp [.i .i64 owner1])) fun rA1 =>
 gI .i64 rA1 fun x2 =>
 ifB (!decide (x2 = 0)) (
 some (.tup [.agg [.list L], .i .i64 x2])) (
 both (
 bd (cloneF 4 48 [.list L]) fun rA2 =>
 gF rA2 fun xs =>
 bd (insertF 48 [.fresh xs, .i .i64 x, .fresh ([.agg [.s p1, .s value1, .i .i64 0, .i .i64 owner1]] : List MV)]) fun rA3 =>
 gF rA3 fun xs1 =>
 some (.tup [.agg [.list xs1], .i .i64 0])) (
 bd (cloneF 4 48 [.list L]) fun rA4 =>
 gF rA4 fun xs2 =>
 bd (insertF 48 [.fresh xs2, .i .i64 x, .fresh ([.agg [.s p1, .s value1, .i .i64 0, .i .i64 owner1]] : List MV)]) fun rA5 =>
 gF rA5 fun xs3 =>
 some (.tup [.agg [.list xs3], .i .i64 0])))
theorem linkShelfCreate (sA p value owner : MV) : bodyK cxShelfCreate [] none Tryd.f69 [sA, p, value, owner] = dShelfCreate sA p value owner := by kernel_rfl
noncomputable def gShelfCreate : Nat → List MV → Option MV := addG 69 (lst4 dShelfCreate) gShelfCreateF1
theorem soundShelfCreate : SoundG Tryd.prog cx gShelfCreate :=
  soundShelfCreateF1.fn (c' := cxShelfCreate) (caps := []) ⟨rfl, rfl, rfl, rfl, rfl, rfl, rfl⟩ rfl tab_ok eq_ok fk_ok mt_ok mix_ok Tryd.func69 (by kernel_rfl) (fun _ => rfl) (lst4_of linkShelfCreate)

noncomputable def cxL09Alive : Ctx := ⟨lookT tiTab, kk, gShelfCreate, gv, frs, lookN ftyOf, 51, [], [], lookL [], lookF fkTab, lookM mtTab, lookL [], lookH [(5, ⟨[1, 2, 3, 5, 6, 7], [], [], [(0, [(0, .sc (.k .b))])], []⟩)], lookH [], lookH []⟩
noncomputable def dL09Alive : Option MV :=
 bd (dShelfNew) fun rA =>
 gA rA fun cs =>
 gC cs fun m msA =>
 gL m fun L =>
 gN msA <|
 bd (dShelfCreate (.agg [.list L]) (.s ([47, 97] : List UInt8)) (.s ([120] : List UInt8)) (.i .i64 0)) fun rA1 =>
 gT rA1 fun vs =>
 gC vs fun m1 msA1 =>
 gA m1 fun cs1 =>
 gC cs1 fun m2 msA2 =>
 gL m2 fun L1 =>
 gN msA2 <|
 gC msA1 fun m3 msA3 =>
 gI .i64 m3 fun x =>
 gN msA3 <|
 bd (dShelfCreate (.agg [.list L]) (.s ([47, 97, 47, 98] : List UInt8)) (.s ([120] : List UInt8)) (.i .i64 0)) fun rA2 =>
 gT rA2 fun vs1 =>
 gC vs1 fun m4 msA4 =>
 gA m4 fun cs2 =>
 gC cs2 fun m5 msA5 =>
 gL m5 fun L2 =>
 gN msA5 <|
 gC msA4 fun m6 msA6 =>
 gI .i64 m6 fun x1 =>
 gN msA6 <|
 bd (dShelfGet (.agg [.list L1]) (.s ([47, 97] : List UInt8))) fun rA3 =>
 gT rA3 fun vs2 =>
 gC vs2 fun m7 msA7 =>
 gA m7 fun cs3 =>
 gC cs3 fun m8 msA8 =>
 gS m8 fun Path =>
 gC msA8 fun m9 msA9 =>
 gS m9 fun Value =>
 gC msA9 fun m10 msA10 =>
 gI .i64 m10 fun Version =>
 gC msA10 fun m11 msA11 =>
 gI .i64 m11 fun Owner =>
 gN msA11 <|
 gC msA7 fun m12 msA12 =>
 gI .i64 m12 fun x2 =>
 gN msA12 <|
 bd (
 ifB (decide (x = 0)) (
 ifB (decide (x1 = 6)) (
 ifB (decide (x2 = 0)) (
 ifB (decide (Value = ([120] : List UInt8))) (
 lenN L1 fun len =>
 ifB (decide ((len : Int) = 2)) (
 lenN L fun len1 =>
 some [.b (decide ((len1 : Int) = 1))]) (
 some [.b false])) (
 some [.b false])) (
 some [.b false])) (
 some [.b false])) (
 some [.b false])) fun vs3 =>
 gC vs3 fun m13 msA13 =>
 gB m13 fun x3 =>
 gN msA13 <|
 some (.b x3)
theorem linkL09Alive : bodyK cxL09Alive [] none Tryd.f56 [] = dL09Alive  := by kernel_rfl
noncomputable def gL09Alive : Nat → List MV → Option MV := addG 56 (lst0 dL09Alive) gShelfCreate
theorem soundL09Alive : SoundG Tryd.prog cx gL09Alive :=
  soundShelfCreate.fn (c' := cxL09Alive) (caps := []) ⟨rfl, rfl, rfl, rfl, rfl, rfl, rfl⟩ rfl tab_ok eq_ok fk_ok mt_ok mix_ok Tryd.func56 (by kernel_rfl) (fun _ => rfl) (lst0_of linkL09Alive)

noncomputable def cxR08Ahead : Ctx := ⟨lookT tiTab, kk, gL09Alive, gv, frs, lookN ftyOf, 61, [], [], lookL [], lookF fkTab, lookM mtTab, lookL [(8, [0, 1, 2, 3, 4, 5, 6, 7, 8]), (9, [0, 1, 2, 3, 4, 5, 6, 7, 8, 9])], lookH [(6, ⟨[5, 7, 9], [], [], [(0, [(35, .sc (.k .b))])], []⟩), (3, ⟨[5, 6, 7, 8], [], [], [(0, [(25, .sc (.k .b))])], []⟩)], lookH [], lookH [(6, ⟨[5, 7], [], [(9, .sc (.k (.i .i64)))], [(1, [(4, .sc (.k .b))]), (2, [])], []⟩)]⟩
noncomputable def dR08Ahead (p q : MV) : Option MV :=
 gS p fun p1 =>
 gS q fun q1 =>
 bd (dR08Names (.s p1)) fun rA =>
 gT rA fun vs =>
 gC vs fun m msA =>
 gL m fun x =>
 gC msA fun m1 msA1 =>
 gI .i64 m1 fun x1 =>
 gN msA1 <|
 bd (dR08Names (.s q1)) fun rA1 =>
 gT rA1 fun vs1 =>
 gC vs1 fun m2 msA2 =>
 gL m2 fun x2 =>
 gC msA2 fun m3 msA3 =>
 gI .i64 m3 fun x3 =>
 gN msA3 <|
 bd (
 ifB (!decide (x1 = 0)) (
 some [.b true]) (
 some [.b (!decide (x3 = 0))])) fun vs2 =>
 gC vs2 fun m4 msA4 =>
 gB m4 fun x4 =>
 gN msA4 <|
 ifB x4 (
 some (.b false)) (
 bd (Loop (fun msA5 =>
 gC msA5 fun m5 msA6 =>
 gI .i64 m5 fun i =>
 gN msA6 <|
 bd (
 lenN x fun len =>
 ifB (decide (i < (len : Int))) (
 lenN x2 fun len1 =>
 some [.b (decide (i < (len1 : Int)))]) (
 some [.b false])) fun vs3 =>
 gC vs3 fun m6 msA7 =>
 gB m6 fun x5 =>
 gN msA7 <|
 ifB x5 (
 idx x i fun y =>
 gS y fun x6 =>
 idx x2 i fun y1 =>
 gS y1 fun x7 =>
 ifB (!decide (x6 = x7)) (
 idx x i fun y2 =>
 gS y2 fun x8 =>
 idx x2 i fun y3 =>
 gS y3 fun x9 =>
 some (.inr (1, [.b (Op.bytesLess x8 x9)]))) (
 some (.inl [.i .i64 (IntKind.wrap .i64 (i + 1))]))) (
 some (.inr (2, [])))) [.i .i64 0]) fun p2 =>
 ifB (Nat.beq p2.1 2) (
 gN p2.2 <|
 lenN x fun len2 =>
 lenN x2 fun len3 =>
 some (.b (decide ((len2 : Int) < (len3 : Int))))) (
 chk (Nat.beq p2.1 1) <|
 gC p2.2 fun m7 msA8 =>
 gB m7 fun x10 =>
 gN msA8 <|
 some (.b x10)))
theorem linkR08Ahead (p q : MV) : bodyK cxR08Ahead [] none Tryd.f51 [p, q] = dR08Ahead p q := by kernel_rfl
noncomputable def gR08Ahead : Nat → List MV → Option MV := addG 51 (lst2 dR08Ahead) gL09Alive
theorem soundR08Ahead : SoundG Tryd.prog cx gR08Ahead :=
  soundL09Alive.fn (c' := cxR08Ahead) (caps := []) ⟨rfl, rfl, rfl, rfl, rfl, rfl, rfl⟩ rfl tab_ok eq_ok fk_ok mt_ok mix_ok Tryd.func51 (by kernel_rfl) (fun _ => rfl) (lst2_of linkR08Ahead)

noncomputable def cxR09At : Ctx := ⟨lookT tiTab, kk, gR08Ahead, gv, frs, lookN ftyOf, 22, [], [], lookL [], lookF fkTab, lookM mtTab, lookL [], lookH [], lookH [], lookH [(2, ⟨[1, 2], [], [(5, .sc (.k (.i .i64)))], [(1, [(4, .sc (.k (.i .i64)))]), (2, [])], []⟩)]⟩
noncomputable def dR09At (sA p : MV) : Option MV :=
 gA sA fun cs =>
 gC cs fun m msA =>
 gL m fun L =>
 gN msA <|
 gS p fun p1 =>
 bd (Loop (fun msA1 =>
 gC msA1 fun m1 msA2 =>
 gI .i64 m1 fun i =>
 gN msA2 <|
 lenN L fun len =>
 ifB (decide (i < (len : Int))) (
 idx L i fun y =>
 gA y fun cs1 =>
 gC cs1 fun m2 msA3 =>
 gS m2 fun Path =>
 gC msA3 fun m3 msA4 =>
 gS m3 fun Value =>
 gC msA4 fun m4 msA5 =>
 gI .i64 m4 fun Version =>
 gC msA5 fun m5 msA6 =>
 gI .i64 m5 fun Owner =>
 gN msA6 <|
 ifB (decide (Path = p1)) (
 some (.inr (1, [.i .i64 i]))) (
 some (.inl [.i .i64 (IntKind.wrap .i64 (i + 1))]))) (
 some (.inr (2, [])))) [.i .i64 0]) fun p2 =>
 ifB (Nat.beq p2.1 2) (
 gN p2.2 <|
 some (.i .i64 (-1))) (
 chk (Nat.beq p2.1 1) <|
 gC p2.2 fun m6 msA7 =>
 gI .i64 m6 fun x =>
 gN msA7 <|
 some (.i .i64 x))
theorem linkR09At (sA p : MV) : bodyK cxR09At [] none Tryd.f95 [sA, p] = dR09At sA p := by kernel_rfl
noncomputable def gR09At : Nat → List MV → Option MV := addG 95 (lst2 dR09At) gR08Ahead
theorem soundR09At : SoundG Tryd.prog cx gR09At :=
  soundR08Ahead.fn (c' := cxR09At) (caps := []) ⟨rfl, rfl, rfl, rfl, rfl, rfl, rfl⟩ rfl tab_ok eq_ok fk_ok mt_ok mix_ok Tryd.func95 (by kernel_rfl) (fun _ => rfl) (lst2_of linkR09At)

noncomputable def cxR09Right : Ctx := ⟨lookT tiTab, kk, gR09At, gv, frs, lookN ftyOf, 100, [], [], lookL [], lookF fkTab, lookM mtTab, lookL [(7, [0, 1, 2, 3, 4, 5, 6, 7, 8, 9, 10, 11, 12, 13, 14, 15, 16, 17, 18, 19, 20, 21, 22, 23, 24, 25, 26, 27, 28, 29, 30, 31, 32, 33, 34, 35, 36, 37, 38, 39, 40, 41])], lookH [(14, ⟨[1, 3, 7], [], [], [(0, [(96, .sc (.k .b))])], []⟩), (7, ⟨[1, 3, 4], [], [], [(0, [(71, .sc (.k .b))])], []⟩), (1, ⟨[1], [], [], [(0, [(17, .sc (.k .b))])], []⟩)], lookH [], lookH [(4, ⟨[1], [], [(3, .sc (.k (.i .i64)))], [(1, [(2, .sc (.k .b))]), (2, [])], []⟩)]⟩
noncomputable def dR09Right (a : MV) : Option MV :=
 gA a fun cs =>
 gC cs fun m msA =>
 gL m fun L =>
 gN msA <|
 bd (
 lenN L fun len =>
 ifB (decide ((len : Int) < 1)) (
 some [.b true]) (
 lenN L fun len1 =>
 some [.b (decide ((200 : Int) < (len1 : Int)))])) fun vs =>
 gC vs fun m1 msA1 =>
 gB m1 fun x =>
 gN msA1 <|
 ifB x (
 some (.b false)) (
 bd (Loop (fun msA2 =>
 gC msA2 fun m2 msA3 =>
 gI .i64 m2 fun x1 =>
 gN msA3 <|
 lenN L fun len2 =>
 ifB (decide (x1 < (len2 : Int))) (
 idx L x1 fun y =>
 gA y fun cs1 =>
 gC cs1 fun m3 msA4 =>
 gS m3 fun Path =>
 gC msA4 fun m4 msA5 =>
 gS m4 fun Value =>
 gC msA5 fun m5 msA6 =>
 gI .i64 m5 fun Version =>
 gC msA6 fun m6 msA7 =>
 gI .i64 m6 fun Owner =>
 gN msA7 <|
 bd (
 bd (dR08Right (.s Path)) fun rA =>
 gB rA fun x2 =>
 ifB (!x2) (
 some [.b true]) (
 ifB (decide ((1000 : Int) < (Value.length : Int))) (
 some [.b true]) (
 ifB (decide (Version < 0)) (
 some [.b true]) (
 ifB (decide ((1000000000 : Int) < Version)) (
 some [.b true]) (
 ifB (decide (Owner < 0)) (
 some [.b true]) (
 ifB (decide ((0 : Int) < x1)) (
 idx L (IntKind.wrap .i64 (x1 - 1)) fun y1 =>
 gA y1 fun cs2 =>
 gC cs2 fun m7 msA8 =>
 gS m7 fun Path1 =>
 gC msA8 fun m8 msA9 =>
 gS m8 fun Value1 =>
 gC msA9 fun m9 msA10 =>
 gI .i64 m9 fun Version1 =>
 gC msA10 fun m10 msA11 =>
 gI .i64 m10 fun Owner1 =>
 gN msA11 <|
 bd (dR08Ahead (.s Path1) (.s Path)) fun rA1 =>
 gB rA1 fun x3 =>
 some [.b (!x3)]) (
 some [.b false]))))))) fun vs1 =>
 gC vs1 fun m11 msA12 =>
 gB m11 fun x4 =>
 gN msA12 <|
 ifB x4 (
 some (.inr (1, [.b false]))) (
 bd (dR08Parent (.s Path)) fun rA2 =>
 gT rA2 fun vs2 =>
 gC vs2 fun m12 msA13 =>
 gS m12 fun x5 =>
 gC msA13 fun m13 msA14 =>
 gI .i64 m13 fun x6 =>
 gN msA14 <|
 ifB (!decide (x6 = 0)) (
 ifB (!decide (Owner = 0)) (
 some (.inr (1, [.b false]))) (
 some (.inl [.i .i64 (IntKind.wrap .i64 (x1 + 1))]))) (
 bd (dR09At (.agg [.list L]) (.s x5)) fun rA3 =>
 gI .i64 rA3 fun x7 =>
 bd (
 ifB (decide (x7 < 0)) (
 some [.b true]) (
 idx L x7 fun y2 =>
 gA y2 fun cs3 =>
 gC cs3 fun m14 msA15 =>
 gS m14 fun Path2 =>
 gC msA15 fun m15 msA16 =>
 gS m15 fun Value2 =>
 gC msA16 fun m16 msA17 =>
 gI .i64 m16 fun Version2 =>
 gC msA17 fun m17 msA18 =>
 gI .i64 m17 fun Owner2 =>
 gN msA18 <|
 some [.b (!decide (Owner2 = 0))])) fun vs3 =>
 gC vs3 fun m18 msA19 =>
 gB m18 fun x8 =>
 gN msA19 <|
 ifB x8 (
 some (.inr (1, [.b false]))) (
 some (.inl [.i .i64 (IntKind.wrap .i64 (x1 + 1))]))))) (
 some (.inr (2, [])))) [.i .i64 0]) fun p =>
 ifB (Nat.beq p.1 2) (
 gN p.2 <|
 bd (dR09At (.agg [.list L]) (.s ([47] : List UInt8))) fun rA4 =>
 gI .i64 rA4 fun x9 =>
 some (.b (decide (x9 = 0)))) (
 chk (Nat.beq p.1 1) <|
 gC p.2 fun m19 msA20 =>
 gB m19 fun x10 =>
 gN msA20 <|
 some (.b x10)))
theorem linkR09Right (a : MV) : bodyK cxR09Right [] none Tryd.f58 [a] = dR09Right a := by kernel_rfl
noncomputable def gR09Right : Nat → List MV → Option MV := addG 58 (lst1 dR09Right) gR09At
theorem soundR09Right : SoundG Tryd.prog cx gR09Right :=
  soundR09At.fn (c' := cxR09Right) (caps := []) ⟨rfl, rfl, rfl, rfl, rfl, rfl, rfl⟩ rfl tab_ok eq_ok fk_ok mt_ok mix_ok Tryd.func58 (by kernel_rfl) (fun _ => rfl) (lst1_of linkR09Right)

noncomputable def cxL09Plain : Ctx := ⟨lookT tiTab, kk, gR09Right, gv, frs, lookN ftyOf, 34, [30], [], lookL [], lookF fkTab, lookM mtTab, lookL [], lookH [], lookH [], lookH [(3, ⟨[1, 2], [], [(3, .box [.own 31 95 true]), (4, .sc (.k (.i .i64)))], [(2, [(3, .box [.own 31 95 true])])], [30, 31]⟩)]⟩
noncomputable def dL09Plain (sA : MV) : Option MV :=
 gA sA fun cs =>
 gC cs fun m msA =>
 gL m fun L =>
 gN msA <|
 bd (Loop (fun msA1 =>
 gC msA1 fun m1 msA2 =>
 gL m1 fun out =>
 gC msA2 fun m2 msA3 =>
 gI .i64 m2 fun i =>
 gN msA3 <|
 lenN L fun len =>
 ifB (decide (i < (len : Int))) (
 idx L i fun y =>
 gA y fun cs1 =>
 gC cs1 fun m3 msA4 =>
 gS m3 fun Path =>
 gC msA4 fun m4 msA5 =>
 gS m4 fun Value =>
 gC msA5 fun m5 msA6 =>
 gI .i64 m5 fun Version =>
 gC msA6 fun m6 msA7 =>
 gI .i64 m6 fun Owner =>
 gN msA7 <|
 lenN out fun len1 =>
 lenN ([.agg [.s Path, .s Value, .i .i64 Version, .i .i64 Owner]] : List MV) fun len2 =>
 chk (decide ((len1 + len2) * 48 ≤ 2 ^ 46)) <|
 some (.inl [.list (out ++ ([.agg [.s Path, .s Value, .i .i64 Version, .i .i64 Owner]] : List MV)), .i .i64 (IntKind.wrap .i64 (i + 1))])) (
 some (.inr (2, [.list out])))) [.list ([] : List MV), .i .i64 0]) fun p =>
 chk (Nat.beq p.1 2) <|
 gC p.2 fun m7 msA8 =>
 gL m7 fun out1 =>
 gN msA8 <|
 some (.agg [.list out1])
theorem linkL09Plain (sA : MV) : bodyK cxL09Plain [] none Tryd.f59 [sA] = dL09Plain sA := by kernel_rfl
noncomputable def gL09Plain : Nat → List MV → Option MV := addG 59 (lst1 dL09Plain) gR09Right
theorem soundL09Plain : SoundG Tryd.prog cx gL09Plain :=
  soundR09Right.fn (c' := cxL09Plain) (caps := []) ⟨rfl, rfl, rfl, rfl, rfl, rfl, rfl⟩ rfl tab_ok eq_ok fk_ok mt_ok mix_ok Tryd.func59 (by kernel_rfl) (fun _ => rfl) (lst1_of linkL09Plain)

noncomputable def cxShelfShelfVersioned : Ctx := ⟨lookT tiTab, kk, gL09Plain, gv, frs, lookN ftyOf, 35, [], [], lookL [], lookF fkTab, lookM mtTab, lookL [], lookH [(2, ⟨[2, 3, 8, 9], [], [], [(0, [(31, .sc (.k .b))])], []⟩)], lookH [], lookH []⟩
noncomputable def dShelfShelfVersioned (sA p version : MV) : Option MV :=
 gA sA fun cs =>
 gC cs fun m msA =>
 gL m fun L =>
 gN msA <|
 gS p fun p1 =>
 gI .i64 version fun version1 =>
 bd (dShelfShelfFind (.agg [.list L]) (.s p1)) fun rA =>
 gT rA fun vs =>
 gC vs fun m1 msA1 =>
 gI .i64 m1 fun x =>
 gC msA1 fun m2 msA2 =>
 gI .i64 m2 fun x1 =>
 gN msA2 <|
 bd (
 ifB (decide (x1 = 0)) (
 ifB (!decide (version1 = (-1))) (
 idx L x fun y =>
 gA y fun cs1 =>
 gC cs1 fun m3 msA3 =>
 gS m3 fun Path =>
 gC msA3 fun m4 msA4 =>
 gS m4 fun Value =>
 gC msA4 fun m5 msA5 =>
 gI .i64 m5 fun Version =>
 gC msA5 fun m6 msA6 =>
 gI .i64 m6 fun Owner =>
 gN msA6 <|
 some [.b (!decide (version1 = Version))]) (
 some [.b false])) (
 some [.b false])) fun vs1 =>
 gC vs1 fun m7 msA7 =>
 gB m7 fun x2 =>
 gN msA7 <|
 ifB x2 (
 some (.tup [.i .i64 x, .i .i64 8])) (
 some (.tup [.i .i64 x, .i .i64 x1]))
theorem linkShelfShelfVersioned (sA p version : MV) : bodyK cxShelfShelfVersioned [] none Tryd.f103 [sA, p, version] = dShelfShelfVersioned sA p version := by kernel_rfl
noncomputable def gShelfShelfVersioned : Nat → List MV → Option MV := addG 103 (lst3 dShelfShelfVersioned) gL09Plain
theorem soundShelfShelfVersioned : SoundG Tryd.prog cx gShelfShelfVersioned :=
  soundL09Plain.fn (c' := cxShelfShelfVersioned) (caps := []) ⟨rfl, rfl, rfl, rfl, rfl, rfl, rfl⟩ rfl tab_ok eq_ok fk_ok mt_ok mix_ok Tryd.func103 (by kernel_rfl) (fun _ => rfl) (lst3_of linkShelfShelfVersioned)

noncomputable def cxShelfSet : Ctx := ⟨lookT tiTab, kk, gShelfShelfVersioned, gv, frs, lookN ftyOf, 59, [], [], lookL [], lookF fkTab, lookM mtTab, lookL [], lookH [], lookH [], lookH []⟩
noncomputable def dShelfSet (sA p value version : MV) : Option MV :=
 gA sA fun cs =>
 gC cs fun m msA =>
 gL m fun L =>
 gN msA <|
 gS p fun p1 =>
 gS value fun value1 =>
 gI .i64 version fun version1 =>
 bd (dShelfShelfVersioned (.agg [.list L]) (.s p1) (.i .i64 version1)) fun rA =>
 gT rA fun vs =>
 gC vs fun m1 msA1 =>
 gI .i64 m1 fun x =>
 gC msA1 fun m2 msA2 =>
 gI .i64 m2 fun x1 =>
 gN msA2 <|
 ifB (!decide (x1 = 0)) (
 some (.tup [.agg [.list L], .i .i64 x1])) (
 ifB (decide ((1000 : Int) < (value1.length : Int))) (
 some (.tup [.agg [.list L], .i .i64 5])) (
 idx L x fun y =>
 gA y fun cs1 =>
 gC cs1 fun m3 msA3 =>
 gS m3 fun Path =>
 gC msA3 fun m4 msA4 =>
 gS m4 fun Value =>
 gC msA4 fun m5 msA5 =>
 gI .i64 m5 fun Version =>
 gC msA5 fun m6 msA6 =>
 gI .i64 m6 fun Owner =>
 gN msA6 <|
 ifB (decide ((1000000000 : Int) ≤ Version)) (
 some (.tup [.agg [.list L], .i .i64 9])) (
 bd (cloneF 4 48 [.list L]) fun rA1 =>
 gF rA1 fun xs =>
 idx xs x fun y1 =>
 gA y1 fun cs2 =>
 gC cs2 fun m7 msA7 =>
 gS m7 fun Path1 =>
 gC msA7 fun m8 msA8 =>
 gS m8 fun Value1 =>
 gC msA8 fun m9 msA9 =>
 gI .i64 m9 fun Version1 =>
 gC msA9 fun m10 msA10 =>
 gI .i64 m10 fun Owner1 =>
 gN msA10 <|
 idx (xs.set (Int.toNat x) (.agg [.s Path1, .s value1, .i .i64 Version1, .i .i64 Owner1])) x fun y2 =>
 gA y2 fun cs3 =>
 gC cs3 fun m11 msA11 =>
 gS m11 fun Path2 =>
 gC msA11 fun m12 msA12 =>
 gS m12 fun Value2 =>
 gC msA12 fun m13 msA13 =>
 gI .i64 m13 fun Version2 =>
 gC msA13 fun m14 msA14 =>
 gI .i64 m14 fun Owner2 =>
 gN msA14 <|
 idx (xs.set (Int.toNat x) (.agg [.s Path1, .s value1, .i .i64 Version1, .i .i64 Owner1])) x fun y3 =>
 gA y3 fun cs4 =>
 gC cs4 fun m15 msA15 =>
 gS m15 fun Path3 =>
 gC msA15 fun m16 msA16 =>
 gS m16 fun Value3 =>
 gC msA16 fun m17 msA17 =>
 gI .i64 m17 fun Version3 =>
 gC msA17 fun m18 msA18 =>
 gI .i64 m18 fun Owner3 =>
 gN msA18 <|
 some (.tup [.agg [.list ((xs.set (Int.toNat x) (.agg [.s Path1, .s value1, .i .i64 Version1, .i .i64 Owner1])).set (Int.toNat x) (.agg [.s Path3, .s Value3, .i .i64 (IntKind.wrap .i64 (Version2 + 1)), .i .i64 Owner3]))], .i .i64 0]))))
theorem linkShelfSet (sA p value version : MV) : bodyK cxShelfSet [] none Tryd.f70 [sA, p, value, version] = dShelfSet sA p value version := by kernel_rfl
noncomputable def gShelfSet : Nat → List MV → Option MV := addG 70 (lst4 dShelfSet) gShelfShelfVersioned
theorem soundShelfSet : SoundG Tryd.prog cx gShelfSet :=
  soundShelfShelfVersioned.fn (c' := cxShelfSet) (caps := []) ⟨rfl, rfl, rfl, rfl, rfl, rfl, rfl⟩ rfl tab_ok eq_ok fk_ok mt_ok mix_ok Tryd.func70 (by kernel_rfl) (fun _ => rfl) (lst4_of linkShelfSet)

noncomputable def cxShelfDelete : Ctx := ⟨lookT tiTab, kk, gShelfSet, gv, frs, lookN ftyOf, 53, [], [], lookL [], lookF fkTab, lookM mtTab, lookL [], lookH [(6, ⟨[1, 3, 6, 8], [], [], [(0, [(26, .sc (.k .b))])], [47, 51]⟩)], lookH [], lookH []⟩
noncomputable def dShelfDelete (sA p version : MV) : Option MV :=
 gA sA fun cs =>
 gC cs fun m msA =>
 gL m fun L =>
 gN msA <|
 gS p fun p1 =>
 gI .i64 version fun version1 =>
 bd (dShelfShelfVersioned (.agg [.list L]) (.s p1) (.i .i64 version1)) fun rA =>
 gT rA fun vs =>
 gC vs fun m1 msA1 =>
 gI .i64 m1 fun x =>
 gC msA1 fun m2 msA2 =>
 gI .i64 m2 fun x1 =>
 gN msA2 <|
 ifB (decide (p1 = ([47] : List UInt8))) (
 some (.tup [.agg [.list L], .i .i64 13])) (
 ifB (!decide (x1 = 0)) (
 some (.tup [.agg [.list L], .i .i64 x1])) (
 bd (
 lenN L fun len =>
 ifB (decide ((IntKind.wrap .i64 (x + 1)) < (len : Int))) (
 idx L (IntKind.wrap .i64 (x + 1)) fun y =>
 gA y fun cs1 =>
 gC cs1 fun m3 msA3 =>
 gS m3 fun Path =>
 gC msA3 fun m4 msA4 =>
 gS m4 fun Value =>
 gC msA4 fun m5 msA5 =>
 gI .i64 m5 fun Version =>
 gC msA5 fun m6 msA6 =>
 gI .i64 m6 fun Owner =>
 gN msA6 <|
 bd (dPathBelow (.s p1) (.s Path)) fun rA1 =>
 gB rA1 fun x2 =>
 some [.b x2]) (
 some [.b false])) fun vs1 =>
 gC vs1 fun m7 msA7 =>
 gB m7 fun x3 =>
 gN msA7 <|
 ifB x3 (
 some (.tup [.agg [.list L], .i .i64 10])) (
 bd (cloneF 4 48 [.list L]) fun rA2 =>
 gF rA2 fun xs =>
 bd (deleteF [.fresh xs, .i .i64 x, .i .i64 (IntKind.wrap .i64 (x + 1))]) fun rA3 =>
 gF rA3 fun xs1 =>
 some (.tup [.agg [.list xs1], .i .i64 0]))))
theorem linkShelfDelete (sA p version : MV) : bodyK cxShelfDelete [] none Tryd.f71 [sA, p, version] = dShelfDelete sA p version := by kernel_rfl
noncomputable def gShelfDelete : Nat → List MV → Option MV := addG 71 (lst3 dShelfDelete) gShelfSet
theorem soundShelfDelete : SoundG Tryd.prog cx gShelfDelete :=
  soundShelfSet.fn (c' := cxShelfDelete) (caps := []) ⟨rfl, rfl, rfl, rfl, rfl, rfl, rfl⟩ rfl tab_ok eq_ok fk_ok mt_ok mix_ok Tryd.func71 (by kernel_rfl) (fun _ => rfl) (lst3_of linkShelfDelete)

noncomputable def cxL09ShelfJust : Ctx := ⟨lookT tiTab, kk, gShelfDelete, gv, frs, lookN ftyOf, 240, [], [], lookL [], lookF fkTab, lookM mtTab, lookL [], lookH [(19, ⟨[8, 10, 14, 26, 27, 28], [], [], [(0, [(6, .sc (.k .b))])], []⟩), (18, ⟨[4, 7, 8, 10, 12, 14, 23, 24, 26, 27], [], [], [(0, [(28, .sc (.k .b))])], []⟩), (17, ⟨[4, 7, 8, 10, 12, 14, 21, 22, 23, 24, 26], [], [], [(0, [(27, .sc (.k .b))])], []⟩), (13, ⟨[7, 8, 15, 16, 17, 18, 19, 20], [], [], [(0, [(6, .sc (.k .b))])], []⟩), (7, ⟨[2, 4, 7, 8, 9, 10, 11, 12, 13, 14], [], [], [(0, [(108, .sc (.k .b))])], []⟩), (1, ⟨[2, 3, 4], [], [], [(0, [(54, .sc (.k .b))])], []⟩)], lookH [], lookH []⟩
noncomputable def dL09ShelfJust (a a1 a2 : MV) : Option MV :=
 gA a fun cs =>
 gC cs fun m msA =>
 gL m fun L =>
 gN msA <|
 gA a1 fun cs1 =>
 gC cs1 fun m1 msA1 =>
 gS m1 fun Path =>
 gC msA1 fun m2 msA2 =>
 gS m2 fun Value =>
 gC msA2 fun m3 msA3 =>
 gI .i64 m3 fun Owner =>
 gC msA3 fun m4 msA4 =>
 gI .i64 m4 fun Version =>
 gN msA4 <|
 gS a2 fun a2N1 =>
 bd (
 bd (dL09Few (.agg [.list L])) fun rA =>
 gB rA fun x =>
 ifB (!x) (
 some [.b true]) (
 bd (dL09Plain (.agg [.list L])) fun rA1 =>
 gA rA1 fun cs2 =>
 gC cs2 fun m5 msA5 =>
 gL m5 fun L1 =>
 gN msA5 <|
 bd (dR09Right (.agg [.list L1])) fun rA2 =>
 gB rA2 fun x1 =>
 ifB (!x1) (
 some [.b true]) (
 ifB (decide ((1100 : Int) < (Path.length : Int))) (
 some [.b true]) (
 ifB (decide ((1100 : Int) < (Value.length : Int))) (
 some [.b true]) (
 some [.b (decide ((1100 : Int) < (a2N1.length : Int)))]))))) fun vs =>
 gC vs fun m6 msA6 =>
 gB m6 fun x2 =>
 gN msA6 <|
 ifB x2 (
 bd (dL09Alive) fun rA3 =>
 gB rA3 fun x3 =>
 some (.b x3)) (
 bd (dShelfGet (.agg [.list L]) (.s a2N1)) fun rA4 =>
 gT rA4 fun vs1 =>
 gC vs1 fun m7 msA7 =>
 gA m7 fun cs3 =>
 gC cs3 fun m8 msA8 =>
 gS m8 fun Path1 =>
 gC msA8 fun m9 msA9 =>
 gS m9 fun Value1 =>
 gC msA9 fun m10 msA10 =>
 gI .i64 m10 fun Version1 =>
 gC msA10 fun m11 msA11 =>
 gI .i64 m11 fun Owner1 =>
 gN msA11 <|
 gC msA7 fun m12 msA12 =>
 gI .i64 m12 fun x4 =>
 gN msA12 <|
 bd (dShelfCreate (.agg [.list L]) (.s Path) (.s Value) (.i .i64 Owner)) fun rA5 =>
 gT rA5 fun vs2 =>
 gC vs2 fun m13 msA13 =>
 gA m13 fun cs4 =>
 gC cs4 fun m14 msA14 =>
 gL m14 fun L2 =>
 gN msA14 <|
 gC msA13 fun m15 msA15 =>
 gI .i64 m15 fun x5 =>
 gN msA15 <|
 bd (dShelfSet (.agg [.list L]) (.s Path) (.s Value) (.i .i64 Version)) fun rA6 =>
 gT rA6 fun vs3 =>
 gC vs3 fun m16 msA16 =>
 gA m16 fun cs5 =>
 gC cs5 fun m17 msA17 =>
 gL m17 fun L3 =>
 gN msA17 <|
 gC msA16 fun m18 msA18 =>
 gI .i64 m18 fun x6 =>
 gN msA18 <|
 bd (dShelfDelete (.agg [.list L]) (.s Path) (.i .i64 Version)) fun rA7 =>
 gT rA7 fun vs4 =>
 gC vs4 fun m19 msA19 =>
 gA m19 fun cs6 =>
 gC cs6 fun m20 msA20 =>
 gL m20 fun L4 =>
 gN msA20 <|
 gC msA19 fun m21 msA21 =>
 gI .i64 m21 fun x7 =>
 gN msA21 <|
 bd (
 bd (dL09Plain (.agg [.list L2])) fun rA8 =>
 gA rA8 fun cs7 =>
 gC cs7 fun m22 msA22 =>
 gL m22 fun L5 =>
 gN msA22 <|
 bd (dR09Right (.agg [.list L5])) fun rA9 =>
 gB rA9 fun x8 =>
 ifB (!x8) (
 some [.b true]) (
 bd (dL09Plain (.agg [.list L3])) fun rA10 =>
 gA rA10 fun cs8 =>
 gC cs8 fun m23 msA23 =>
 gL m23 fun L6 =>
 gN msA23 <|
 bd (dR09Right (.agg [.list L6])) fun rA11 =>
 gB rA11 fun x9 =>
 ifB (!x9) (
 some [.b true]) (
 bd (dL09Plain (.agg [.list L4])) fun rA12 =>
 gA rA12 fun cs9 =>
 gC cs9 fun m24 msA24 =>
 gL m24 fun L7 =>
 gN msA24 <|
 bd (dR09Right (.agg [.list L7])) fun rA13 =>
 gB rA13 fun x10 =>
 some [.b (!x10)]))) fun vs5 =>
 gC vs5 fun m25 msA25 =>
 gB m25 fun x11 =>
 gN msA25 <|
 ifB x11 (
 some (.b false)) (
 ifB (!decide (a2N1 = Path)) (
 bd (dShelfGet (.agg [.list L2]) (.s a2N1)) fun rA14 =>
 gT rA14 fun vs6 =>
 gC vs6 fun m26 msA26 =>
 gA m26 fun cs10 =>
 gC cs10 fun m27 msA27 =>
 gS m27 fun Path2 =>
 gC msA27 fun m28 msA28 =>
 gS m28 fun Value2 =>
 gC msA28 fun m29 msA29 =>
 gI .i64 m29 fun Version2 =>
 gC msA29 fun m30 msA30 =>
 gI .i64 m30 fun Owner2 =>
 gN msA30 <|
 gC msA26 fun m31 msA31 =>
 gI .i64 m31 fun x12 =>
 gN msA31 <|
 bd (dShelfGet (.agg [.list L3]) (.s a2N1)) fun rA15 =>
 gT rA15 fun vs7 =>
 gC vs7 fun m32 msA32 =>
 gA m32 fun cs11 =>
 gC cs11 fun m33 msA33 =>
 gS m33 fun Path3 =>
 gC msA33 fun m34 msA34 =>
 gS m34 fun Value3 =>
 gC msA34 fun m35 msA35 =>
 gI .i64 m35 fun Version3 =>
 gC msA35 fun m36 msA36 =>
 gI .i64 m36 fun Owner3 =>
 gN msA36 <|
 gC msA32 fun m37 msA37 =>
 gI .i64 m37 fun x13 =>
 gN msA37 <|
 bd (dShelfGet (.agg [.list L4]) (.s a2N1)) fun rA16 =>
 gT rA16 fun vs8 =>
 gC vs8 fun m38 msA38 =>
 gA m38 fun cs12 =>
 gC cs12 fun m39 msA39 =>
 gS m39 fun Path4 =>
 gC msA39 fun m40 msA40 =>
 gS m40 fun Value4 =>
 gC msA40 fun m41 msA41 =>
 gI .i64 m41 fun Version4 =>
 gC msA41 fun m42 msA42 =>
 gI .i64 m42 fun Owner4 =>
 gN msA42 <|
 gC msA38 fun m43 msA43 =>
 gI .i64 m43 fun x14 =>
 gN msA43 <|
 bd (
 bd (dL09Alive) fun rA17 =>
 gB rA17 fun x15 =>
 ifB x15 (
 ifB ((decide (Path2 = Path1)) && ((decide (Value2 = Value1)) && ((decide (Version2 = Version1)) && (decide (Owner2 = Owner1))))) (
 ifB ((decide (Path3 = Path1)) && ((decide (Value3 = Value1)) && ((decide (Version3 = Version1)) && (decide (Owner3 = Owner1))))) (
 ifB ((decide (Path4 = Path1)) && ((decide (Value4 = Value1)) && ((decide (Version4 = Version1)) && (decide (Owner4 = Owner1))))) (
 ifB (decide (x12 = x4)) (
 ifB (decide (x13 = x4)) (
 some [.b (decide (x14 = x4))]) (
 some [.b false])) (
 some [.b false])) (
 some [.b false])) (
 some [.b false])) (
 some [.b false])) (
 some [.b false])) fun vs9 =>
 gC vs9 fun m44 msA44 =>
 gB m44 fun x16 =>
 gN msA44 <|
 some (.b x16)) (
 bd (dShelfGet (.agg [.list L2]) (.s a2N1)) fun rA18 =>
 gT rA18 fun vs10 =>
 gC vs10 fun m45 msA45 =>
 gA m45 fun cs13 =>
 gC cs13 fun m46 msA46 =>
 gS m46 fun Path5 =>
 gC msA46 fun m47 msA47 =>
 gS m47 fun Value5 =>
 gC msA47 fun m48 msA48 =>
 gI .i64 m48 fun Version5 =>
 gC msA48 fun m49 msA49 =>
 gI .i64 m49 fun Owner5 =>
 gN msA49 <|
 gC msA45 fun m50 msA50 =>
 gI .i64 m50 fun x17 =>
 gN msA50 <|
 bd (dShelfGet (.agg [.list L3]) (.s a2N1)) fun rA19 =>
 gT rA19 fun vs11 =>
 gC vs11 fun m51 msA51 =>
 gA m51 fun cs14 =>
 gC cs14 fun m52 msA52 =>
 gS m52 fun Path6 =>
 gC msA52 fun m53 msA53 =>
 gS m53 fun Value6 =>
 gC msA53 fun m54 msA54 =>
 gI .i64 m54 fun Version6 =>
 gC msA54 fun m55 msA55 =>
 gI .i64 m55 fun Owner6 =>
 gN msA55 <|
 gC msA51 fun m56 msA56 =>
 gI .i64 m56 fun x18 =>
 gN msA56 <|
 bd (dShelfGet (.agg [.list L4]) (.s a2N1)) fun rA20 =>
 gT rA20 fun vs12 =>
 gC vs12 fun m57 msA57 =>
 gA m57 fun cs15 =>
 gC cs15 fun m58 msA58 =>
 gS m58 fun Path7 =>
 gC msA58 fun m59 msA59 =>
 gS m59 fun Value7 =>
 gC msA59 fun m60 msA60 =>
 gI .i64 m60 fun Version7 =>
 gC msA60 fun m61 msA61 =>
 gI .i64 m61 fun Owner7 =>
 gN msA61 <|
 gC msA57 fun m62 msA62 =>
 gI .i64 m62 fun x19 =>
 gN msA62 <|
 bd (
 ifB (!decide (x5 = 0)) (
 some [.b true]) (
 ifB (decide (x17 = 0)) (
 some [.b ((decide (Path5 = Path)) && ((decide (Value5 = Value)) && ((decide (Version5 = 0)) && (decide (Owner5 = Owner)))))]) (
 some [.b false]))) fun vs13 =>
 gC vs13 fun m63 msA63 =>
 gB m63 fun x20 =>
 gN msA63 <|
 bd (
 ifB (!decide (x6 = 0)) (
 some [.b true]) (
 ifB (decide (x18 = 0)) (
 some [.b ((decide (Path6 = Path)) && ((decide (Value6 = Value)) && ((decide (Version6 = (IntKind.wrap .i64 (Version1 + 1)))) && (decide (Owner6 = Owner1)))))]) (
 some [.b false]))) fun vs14 =>
 gC vs14 fun m64 msA64 =>
 gB m64 fun x21 =>
 gN msA64 <|
 bd (
 bd (dL09Alive) fun rA21 =>
 gB rA21 fun x22 =>
 ifB x22 (
 ifB x20 (
 ifB x21 (
 ifB (!decide (x7 = 0)) (
 ifB (!decide (x5 = 0)) (
 some [.b true]) (
 some [.b (decide (x4 = 6))])) (
 ifB (decide (x19 = 6)) (
 ifB (!decide (x5 = 0)) (
 some [.b true]) (
 some [.b (decide (x4 = 6))])) (
 some [.b false]))) (
 some [.b false])) (
 some [.b false])) (
 some [.b false])) fun vs15 =>
 gC vs15 fun m65 msA65 =>
 gB m65 fun x23 =>
 gN msA65 <|
 some (.b x23))))
theorem linkL09ShelfJust (a a1 a2 : MV) : bodyK cxL09ShelfJust [] none Tryd.f17 [a, a1, a2] = dL09ShelfJust a a1 a2 := by kernel_rfl
noncomputable def gL09ShelfJust : Nat → List MV → Option MV := addG 17 (lst3 dL09ShelfJust) gShelfDelete
theorem soundL09ShelfJust : SoundG Tryd.prog cx gL09ShelfJust :=
  soundShelfDelete.fn (c' := cxL09ShelfJust) (caps := []) ⟨rfl, rfl, rfl, rfl, rfl, rfl, rfl⟩ rfl tab_ok eq_ok fk_ok mt_ok mix_ok Tryd.func17 (by kernel_rfl) (fun _ => rfl) (lst3_of linkL09ShelfJust)
end Dn.S
