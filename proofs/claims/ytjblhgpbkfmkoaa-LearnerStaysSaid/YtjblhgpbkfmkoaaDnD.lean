import Derived.Test.YtjblhgpbkfmkoaaDnC
import Derived.Laws.CopyRow
import Derived.Lib.AppendZerosOnto
import Derived.Lib.Overlaps
import Derived.Laws.Externs
/-
  Tables of functions. Conditions: none.
-/
namespace Dn
open Go
/-- a table of functions does what it says -/
structure SoundG (P : Program) (c : Ctx) (g : Nat → List MV → Option MV) : Prop where
  all : ∀ f ms r, g (c.key f) ms = some r → Sound1 P c f ms r
/-- one function more -/
abbrev addG (n : Nat) (F : List MV → Option MV) (g : Nat → List MV → Option MV) : Nat → List MV → Option MV := fun k ms => match Nat.beq k n with | true => F ms | false => g k ms
theorem SoundG.add {P : Program} {c : Ctx} {g : Nat → List MV → Option MV} {n : Nat} {F : List MV → Option MV} (h : SoundG P c g) (hF : ∀ f ms r, c.key f = n → F ms = some r → Sound1 P c f ms r) : SoundG P c (addG n F g) := by
  refine ⟨fun f ms r hr => ?_⟩
  unfold addG at hr
  cases hk : Nat.beq (c.key f) n with
  | true => simp only [hk] at hr; exact hF f ms r (Nat.eq_of_beq_eq_true hk) hr
  | false => simp only [hk] at hr; exact h.all f ms r hr
/-- contexts that differ only in what one function's run looks at -/
structure Like (c c' : Ctx) : Prop where
  ti : c'.ti = c.ti
  key : c'.key = c.key
  gives : c'.gives = c.gives
  fresh : c'.fresh = c.fresh
  fty : c'.fty = c.fty
  fk : c'.fk = c.fk
  mt : c'.mt = c.mt
  sig : c'.sig = c.sig
theorem FamOK.like {c c' : Ctx} (h : c'.ti = c.ti) {Z : Zone} {e : Env} {w : World} {v : Value} {o : Own} (hs : FamOK c Z e w v o) : FamOK c' Z e w v o := by
  obtain ⟨I, cells, h1, h2⟩ := hs.row
  exact ⟨I, cells, by rw [h]; exact h1, h2⟩
theorem ResRep.like {c c' : Ctx} (h : Like c c') {Z : Nat → Prop} {φ : Ph} {w : World} {k : Nat} {v : Value} {r : MV} (hs : ResRep c Z φ w k v r) : ResRep c' Z φ w k v r := by
  cases r <;> simp only [ResRep, h.key, h.fty] at hs ⊢ <;> first | exact hs | exact hs.like h.ti
theorem CellIn.like {c c' : Ctx} (h : Like c c') {Z : Nat → Prop} {φ : Ph} {w : World} {blk : Nat} {ks : List LK} {ls : List MV} (hs : CellIn c Z φ w blk ks ls) : CellIn c' Z φ w blk ks ls := by
  obtain ⟨cs, m, E, arr, T, h1, h2, h3, h4, h5, h6, h7⟩ := hs
  refine ⟨cs, m, E, arr, T, h1, h2, h3, h4, by rw [h.key]; exact h5, fun f o ho => ⟨?_, (h6 f o ho).2⟩, h7⟩
  rw [h.key]
  exact (h6 f o ho).1.like h.ti
theorem ResOK.like {c c' : Ctx} (h : Like c c') {Z : Nat → Prop} {φ : Ph} {w : World} {k : Nat} {vs : List Value} {v : Value} {r : MV} (hs : ResOK c Z φ w k vs v r) : ResOK c' Z φ w k vs v r := by
  cases r <;> simp only [ResOK] at hs ⊢ <;> first | exact hs.like h | skip
  obtain ⟨h1, pos, ks, blk, off, h2, h3, h4⟩ := hs
  exact ⟨h1.like h, pos, ks, blk, off, by rw [h.sig]; exact h2, h3, h4.like h⟩
theorem ArgsIn.like {c c' : Ctx} (h : Like c c') {Z : Nat → Prop} {φ : Ph} {w : World} {k : Nat} {vs : List Value} {ms : List MV} (hs : ArgsIn c' Z φ w k vs ms) : ArgsIn c Z φ w k vs ms := by
  unfold ArgsIn at hs ⊢
  rw [h.gives] at hs
  split
  · rename_i hg
    rw [if_pos hg] at hs
    rcases hs with ⟨v0, v1, v2, xs, m1, ys, h1, h2, h3, h4, h5, h6⟩ | ⟨v0, v1, v2, xs, m1, m2, h1, h2, h3, h4, h5, h6⟩ | ⟨pos, ks, off, ls, blk, h1, h2, h3, h4, h5⟩
    · rw [h.key, h.fty] at h3 h5
      rw [h.key] at h4
      exact .inl ⟨v0, v1, v2, xs, m1, ys, h1, h2, h3.like h.ti.symm, h4, h5.like h.ti.symm, h6⟩
    · rw [h.key, h.fty] at h4
      rw [h.key] at h5 h6
      exact .inr (.inl ⟨v0, v1, v2, xs, m1, m2, h1, h2, h3, h4.like h.ti.symm, h5, h6⟩)
    · refine .inr (.inr ⟨pos, ks, off, ls, blk, by rw [← h.sig]; exact h1, h2, h3, by rw [← h.key]; exact h4, ?_⟩)
      obtain ⟨cs, m, E, arr, T, k1, k2, k3, k4, k5, k6, k7⟩ := h5
      refine ⟨cs, m, E, arr, T, k1, k2, k3, k4, by rw [← h.key]; exact k5, fun f o ho => ⟨?_, (k6 f o ho).2⟩, k7⟩
      rw [← h.key]
      exact (k6 f o ho).1.like h.ti.symm
  · rename_i hg
    rw [if_neg hg, h.key] at hs
    exact hs
theorem CallOK.mono {P : Program} {f : FuncId} {args : Array Value} {w : World} {R R' : Value → World → Prop} (hc : CallOK P f args w R) (h : ∀ v w', R v w' → R' v w') : CallOK P f args w R' := by
  unfold CallOK at hc ⊢
  split
  · rename_i heq
    rw [heq] at hc
    exact Calls.mono hc (fun x w'' ⟨v, e, hr⟩ => ⟨v, e, h v w'' hr⟩)
  · rename_i heq
    rw [heq] at hc
    exact h _ _ hc
  · rename_i h1 h2
    split at hc
    · rename_i heq; exact absurd heq (h1 _ _ _)
    · rename_i heq; exact absurd heq (h2 _ _)
    · exact hc
theorem Sound1.like {P : Program} {c c' : Ctx} {f : Nat} {ms : List MV} {r : MV} (h : Like c c') (hs : Sound1 P c f ms r) : Sound1 P c' f ms r := by
  intro φ w Z vs hz ha hi
  rw [h.key] at ha
  refine (hs φ w Z vs hz (ha.like h) hi).mono ?_
  rintro v w' ⟨φ', h1, h2, h3⟩
  rw [h.key]
  exact ⟨φ', h1, h2, h3.like h⟩
theorem Like.symm {c c' : Ctx} (h : Like c c') : Like c' c := ⟨h.ti.symm, h.key.symm, h.gives.symm, h.fresh.symm, h.fty.symm, h.fk.symm, h.mt.symm, h.sig.symm⟩
/-- what is asked of a function's head -/
def headB (c : Ctx) (n : Nat) (fn : Func) (caps : List (List Kd)) : Bool :=
  !(fn.name == "runtime.NumGoroutine") && Nat.beq c.n fn.ntmps && Nat.ble (fn.params.size + caps.length) fn.ntmps && !c.gives n
/-- a function of the program's, out of its abstract run -/
theorem SoundG.body {P : Program} {c c' : Ctx} {g : Nat → List MV → Option MV} {n : Nat} {fn : Func} {caps : List (List Kd)} (h : SoundG P c g) (hl : Like c c') (hgg : c'.g = g) (hti : TIok P c.ti) (heq : EqOK P c.ti) (hfk : ∀ t k, c.fk t = some k → P.underlying t = some (.float k)) (hmt : MapTys P c) (hmix : P.follows .mixedOrders = true)
    (hf : P.funcs[n]? = some fn) (hh : headB c' n fn caps = true) (hkey : ∀ f, c.key f = f) : SoundG P c (addG n (bodyK c' caps none fn) g) := by
  have hG : Good P c' := by
    refine ⟨by rw [hl.ti]; exact hti, by rw [hl.ti]; exact heq, fun f ms r hr => ?_, by rw [hl.fk]; exact hfk, fun t s hs => hmt t s ?_⟩
    · rw [hgg, hl.key] at hr
      exact (h.all f ms r hr).like hl
    · rw [← hs]; unfold msOf Ctx.tv; rw [hl.mt, hl.ti]
  refine h.add (fun f ms r hk hr => ?_)
  rw [hkey] at hk
  subst hk
  simp only [headB, Bool.and_eq_true, Bool.not_eq_true'] at hh
  obtain ⟨⟨⟨h1, h2⟩, h3⟩, h4⟩ := hh
  exact (body_ok hG (draws_ok hG hmix) hf h1 (Nat.eq_of_beq_eq_true h2) (Nat.le_of_ble_eq_true h3) (by rw [hl.key, hkey]; exact h4) hr).like hl.symm
/-- what is asked of the head of a function that is handed a variable -/
def headC (c : Ctx) (n : Nat) (fn : Func) (caps : List (List Kd)) : Bool :=
  !(fn.name == "runtime.NumGoroutine") && Nat.beq c.n fn.ntmps && Nat.ble fn.ntmps 1000000 && Nat.ble (fn.params.size + caps.length) fn.ntmps && c.gives n
theorem SoundG.fnC {P : Program} {c : Ctx} {g : Nat → List MV → Option MV} {n pos : Nat} {ks : List LK} {fn : Func} {caps : List (List Kd)} {F : List MV → Option MV} (h : SoundG P c g) (hti : TIok P c.ti) (heq : EqOK P c.ti) (hfk : ∀ t k, c.fk t = some k → P.underlying t = some (.float k)) (hmt : MapTys P c) (hmix : P.follows .mixedOrders = true)
    (hf : P.funcs[n]? = some fn) (hsig : c.sig n = some (pos, ks)) (hkey : ∀ f, c.key f = f) (hF : ∀ {ms r}, F ms = some r → ∃ c' : Ctx, Like c c' ∧ c'.g = g ∧ headC c' n fn caps = true ∧ bodyC c' caps pos ks fn ms = some r) : SoundG P c (addG n F g) := by
  refine h.add (fun f ms r hk hr => ?_)
  rw [hkey] at hk
  subst hk
  obtain ⟨c', hl, hgg, hh, hr⟩ := hF hr
  have hG : Good P c' := by
    refine ⟨by rw [hl.ti]; exact hti, by rw [hl.ti]; exact heq, fun f ms r hr => ?_, by rw [hl.fk]; exact hfk, fun t s hs => hmt t s ?_⟩
    · rw [hgg, hl.key] at hr
      exact (h.all f ms r hr).like hl
    · rw [← hs]; unfold msOf Ctx.tv; rw [hl.mt, hl.ti]
  simp only [headC, Bool.and_eq_true, Bool.not_eq_true'] at hh
  obtain ⟨⟨⟨⟨h1, h2⟩, h2'⟩, h3⟩, h4⟩ := hh
  exact (body_okC hG (draws_ok hG hmix) hf h1 (Nat.eq_of_beq_eq_true h2) (Nat.le_of_ble_eq_true h2') (Nat.le_of_ble_eq_true h3) (by rw [hl.key, hkey]; exact h4) (by rw [hl.sig, hl.key, hkey]; exact hsig) hr).like hl.symm
theorem addG_at {n : Nat} {F : List MV → Option MV} {g : Nat → List MV → Option MV} {ms : List MV} : addG n F g n ms = F ms := by simp [addG]
theorem addG_ne {n k : Nat} {F : List MV → Option MV} {g : Nat → List MV → Option MV} {ms : List MV} (h : Nat.beq k n = false) : addG n F g k ms = g k ms := by simp [addG, h]
end Dn
/-
  Steps through a function of the library by hand. Conditions: none.
-/
set_option linter.unusedSimpArgs false
set_option linter.unusedVariables false
namespace Dn
open Go
def upd (σ : Nat → Value) (d : Nat) (v : Value) : Nat → Value := fun t => bif Nat.beq t d then v else σ t
def ev (σ : Nat → Value) : Operand → Value
  | .tmp t => σ t
  | .const v => v
  | .global g => .pointer (some ⟨g, 0, none⟩)
  | .func f => .func (.func f) #[] #[]
/-- an activation's variables, as a function -/
structure Tm (a : Act) (n : Nat) (σ : Nat → Value) : Prop where
  defers : a.defers = []
  size : a.tmps.size = n
  get : ∀ t, a.tmps.getD t undef = σ t
theorem Tm.eval {a : Act} {n : Nat} {σ : Nat → Value} (h : Tm a n σ) : a.eval = ev σ := by
  funext x
  cases x with
  | tmp t => exact h.get t
  | _ => rfl
theorem Tm.put {a : Act} {n : Nat} {σ : Nat → Value} (h : Tm a n σ) {d : Nat} (hd : d < n) (v : Value) : Tm (a.put (some d) v) n (upd σ d v) := by
  refine ⟨h.defers, by simp [Act.put, h.size], fun t => ?_⟩
  show (a.tmps.setIfInBounds d v).getD t undef = bif Nat.beq t d then v else σ t
  by_cases ht : t = d
  · subst ht
    have : t < a.tmps.size := by rw [h.size]; exact hd
    simp [this]
  · have hb : Nat.beq t d = false := by
      cases hq : Nat.beq t d with
      | false => rfl
      | true => exact absurd (Nat.eq_of_beq_eq_true hq) ht
    rw [hb]
    have := h.get t
    simp only [Array.getD_eq_getD_getElem?, Array.getElem?_setIfInBounds_ne (Ne.symm ht), cond_false] at this ⊢
    exact this

theorem tm3 (v0 v1 v2 : Value) (k : Nat) : Tm { tmps := #[v0, v1, v2] ++ Array.replicate k undef, defers := [] } (k + 3) (upd (upd (upd (fun _ => undef) 0 v0) 1 v1) 2 v2) := by
  refine ⟨rfl, by simp [Nat.add_comm], fun q => ?_⟩
  by_cases h0 : q = 0
  · subst h0; show (#[v0, v1, v2] ++ Array.replicate k undef).getD 0 undef = v0; simp [Array.getElem?_append]
  by_cases h1 : q = 1
  · subst h1; show (#[v0, v1, v2] ++ Array.replicate k undef).getD 1 undef = v1; simp [Array.getElem?_append]
  by_cases h2 : q = 2
  · subst h2; show (#[v0, v1, v2] ++ Array.replicate k undef).getD 2 undef = v2; simp [Array.getElem?_append]
  have e : ∀ {x y : Nat}, x ≠ y → Nat.beq x y = false := fun {x y} h => by
    cases hq : Nat.beq x y with
    | false => rfl
    | true => exact absurd (Nat.eq_of_beq_eq_true hq) h
  simp only [upd, e h0, e h1, e h2, cond_false]
  have h3 : 3 ≤ q := by omega
  simp [Array.getElem?_append, Array.getElem?_replicate, show ¬ q < 3 by omega]
  by_cases hk : q - 3 < k <;> simp [hk]

section
variable {P : Program} {Q : Exit → Act → World → Prop} {ops : Array Oper} {o : Oper} {a : Act} {w w' : World} {n : Nat} {σ : Nat → Value}

theorem Tm.step {i d : Nat} {op : Op} {rest : List Nat} {v : Value} (htm : Tm a n σ) (hi : ops[i]? = some o) (ho : IsOp o d op) (hd : d < n) (hrun : (execOp (ev σ) o).run P w = .ok (.value v) w')
    (h : ∀ a', Tm a' n (upd σ d v) → wpOps P ops Q rest a' w') : wpOps P ops Q (i :: rest) a w := by
  refine wp_val hi ho.guard (v := v) (w' := w') (by rw [htm.eval]; exact hrun) ?_
  rw [ho.dst]
  exact h _ (htm.put hd v)

theorem run_mv {d : Nat} {x : Operand} {e : Operand → Value} (ho : IsOp o d (.move x)) (w : World) : (execOp e o).run P w = .ok (.value (e x)) w := by simp [execOp, ho.op]
theorem run_asg {d : Nat} {x : Operand} {e : Operand → Value} (ho : IsOp o d (.assign x)) (w : World) : (execOp e o).run P w = .ok (.value (e x)) w := by simp [execOp, ho.op]
theorem run_len {d : Nat} {t el : TypeId} {x : Operand} {e : Operand → Value} {ad : Option Addr} {m c : Nat} (ho : IsOp o d (.call { callee := .builtin .len, args := #[x], argTypes := #[t] })) (hu : P.underlying t = some (.slice el)) (hx : e x = .slice ad m c) (w : World) :
    (execOp e o).run P w = .ok (.value (.int .i64 m)) w := by simp [execOp, ho.op, resolve, invoke, builtin, hx, Builtin.len_, goInt, run_underlying hu]
theorem run_cap {d : Nat} {t el : TypeId} {x : Operand} {e : Operand → Value} {ad : Option Addr} {m c : Nat} (ho : IsOp o d (.call { callee := .builtin .cap, args := #[x], argTypes := #[t] })) (hu : P.underlying t = some (.slice el)) (hx : e x = .slice ad m c) (w : World) :
    (execOp e o).run P w = .ok (.value (.int .i64 c)) w := by simp [execOp, ho.op, resolve, invoke, builtin, hx, Builtin.cap_, goInt, run_underlying hu]
theorem run_ibin {d : Nat} {op : BinOp} {t t' : TypeId} {x y : Operand} {e : Operand → Value} {k : IntKind} {p q : Int} {v : Value} (ho : IsOp o d (.binOp op t x y t')) (hx : e x = .int k p) (hy : e y = .int k q)
    (hv : ∀ w : World, (Go.binOp op t (.int k p) (.int k q)).run P w = .ok v w) (w : World) : (execOp e o).run P w = .ok (.value v) w := by
  have hg : (eqGuard op t x y (.int k p) (.int k q)).run P w = .ok () w := by cases op <;> rfl
  simp [execOp, ho.op, hx, hy, hg, hv]
theorem run_ieq {d : Nat} {t t' : TypeId} {x y : Operand} {e : Operand → Value} {p q : Int} (ho : IsOp o d (.binOp .eql t x y t')) (hx : e x = .int .i64 p) (hy : e y = .int .i64 q) (w : World) :
    (execOp e o).run P w = .ok (.value (.bool (decide (p = q)))) w := run_ibin ho hx hy (fun w => by simp [Go.binOp, Op.intCmp]; rfl) w
theorem run_igtr {d : Nat} {t t' : TypeId} {x y : Operand} {e : Operand → Value} {p q : Int} (ho : IsOp o d (.binOp .gtr t x y t')) (hx : e x = .int .i64 p) (hy : e y = .int .i64 q) (w : World) :
    (execOp e o).run P w = .ok (.value (.bool (decide (q < p)))) w := run_ibin ho hx hy (fun w => by simp [Go.binOp, Op.intCmp]) w
theorem run_iadd {d : Nat} {t t' : TypeId} {x y : Operand} {e : Operand → Value} {p q : Nat} (ho : IsOp o d (.binOp .add t x y t')) (hx : e x = .int .i64 p) (hy : e y = .int .i64 q) (hl : p + q < 2 ^ 63) (w : World) :
    (execOp e o).run P w = .ok (.value (.int .i64 ((p + q : Nat) : Int))) w := run_ibin ho hx hy (fun w => by
      have : IntKind.i64.wrap ((p : Int) + (q : Int)) = ((p + q : Nat) : Int) := by rw [IntKind.wrap_i64]; omega
      simp [Go.binOp, Op.intArith, this]) w
theorem run_isub {d : Nat} {t t' : TypeId} {x y : Operand} {e : Operand → Value} {p q : Nat} (ho : IsOp o d (.binOp .sub t x y t')) (hx : e x = .int .i64 p) (hy : e y = .int .i64 q) (hl : p < 2 ^ 63) (hq : q ≤ p) (w : World) :
    (execOp e o).run P w = .ok (.value (.int .i64 ((p - q : Nat) : Int))) w := run_ibin ho hx hy (fun w => by
      have : IntKind.i64.wrap ((p : Int) - (q : Int)) = ((p - q : Nat) : Int) := by rw [IntKind.wrap_i64]; omega
      simp [Go.binOp, Op.intArith, this]) w
theorem run_not {d : Nat} {t : TypeId} {x : Operand} {e : Operand → Value} {b : Bool} (ho : IsOp o d (.unOp .not t x)) (hx : e x = .bool b) (w : World) :
    (execOp e o).run P w = .ok (.value (.bool (!b))) w := by simp [execOp, ho.op, hx, Op.unary]
/-- a part of a slice, from some index on -/
theorem run_from {d : Nat} {t el : TypeId} {x y : Operand} {e : Operand → Value} {ad : Option Addr} {m c l size : Nat} {i : TypeInfo} (ho : IsOp o d (.slice t x (some y) none none)) (hu : P.underlying t = some (.slice el)) (hi : P.info? el = some i) (hs : i.size = size)
    (hx : e x = .slice ad m c) (hy : e y = .int .i64 l) (hl : l ≤ m) (w : World) : (execOp e o).run P w = .ok (.value (.slice (if c = l then ad else ad.map (·.add (l * size))) (m - l) (c - l))) w := by
  simp [execOp, ho.op, Instr.sliceAt, Instr.slice, run_underlying hu, hx, hy, Go.sizeOf, typeInfo, hi, hs, Instr.sliceBounds, Instr.sliceBound, asIntOf, hl]
/-- .. up to some index -/
theorem run_upto {d : Nat} {t el : TypeId} {x y : Operand} {e : Operand → Value} {ad : Option Addr} {m c l size : Nat} {i : TypeInfo} (ho : IsOp o d (.slice t x none (some y) none)) (hu : P.underlying t = some (.slice el)) (hi : P.info? el = some i) (hs : i.size = size)
    (hx : e x = .slice ad m c) (hy : e y = .int .i64 l) (hl : l ≤ c) (w : World) : (execOp e o).run P w = .ok (.value (.slice ad l c)) w := by
  have h0 : ∀ q : Addr, q.add 0 = q := fun q => by obtain ⟨b, o, s⟩ := q; cases s <;> simp [Addr.add]
  have : (if c = 0 then ad else ad.map (·.add (0 * size))) = ad := by
    cases ad <;> simp [h0]
  simp [execOp, ho.op, Instr.sliceAt, Instr.slice, run_underlying hu, hx, hy, Go.sizeOf, typeInfo, hi, hs, Instr.sliceBounds, Instr.sliceBound, asIntOf, hl]
  cases ad <;> simp [h0]
theorem run_fromA {d : Nat} {t el : TypeId} {x y : Operand} {e : Operand → Value} {g m c l size : Nat} {i : TypeInfo} (ho : IsOp o d (.slice t x (some y) none none)) (hu : P.underlying t = some (.slice el)) (hi : P.info? el = some i) (hs : i.size = size)
    (hx : e x = .slice (some ⟨g, 0, none⟩) m c) (hy : e y = .int .i64 l) (hl : l ≤ m) (hc : l < c) (w : World) : (execOp e o).run P w = .ok (.value (.slice (some ⟨g, l * size, none⟩) (m - l) (c - l))) w := by
  rw [run_from ho hu hi hs hx hy hl w]
  have : ¬ c = l := by omega
  have h0 : (⟨g, 0, none⟩ : Addr).add (l * size) = ⟨g, l * size, none⟩ := by
    have := Addr.add_mid g 0 (l * size)
    rwa [Nat.zero_add] at this
  simp [this, h0]
theorem run_ext {d : Nat} {x y : Operand} {t1 t2 : TypeId} {f : FuncId} {e : Operand → Value} {v1 v2 v : Value} (ho : IsOp o d (.call { callee := .value (.func f), args := #[x, y], argTypes := #[t1, t2] })) (he : e (.func f) = .func (.func f) #[] #[]) (hx : e x = v1) (hy : e y = v2)
    (h : (callFunc f #[v1, v2]).run P w = .ok (.value v) w') : (execOp e o).run P w = .ok (.value v) w' := by
  simp [execOp, ho.op, resolve, invoke, builtin, he, hx, hy, Deferred.ofValue, h]
theorem run_app2 {d : Nat} {x y : Operand} {t1 t2 : TypeId} {e : Operand → Value} {v1 v2 v : Value} (ho : IsOp o d (.call { callee := .builtin .append, args := #[x, y], argTypes := #[t1, t2] })) (hx : e x = v1) (hy : e y = v2)
    (h : (Builtin.append_ #[t1, t2] o.type #[v1, v2]).run P w = .ok v w') : (execOp e o).run P w = .ok (.value v) w' := by
  simp [execOp, ho.op, resolve, invoke, builtin, hx, hy, h]
theorem run_cpy2 {d : Nat} {x y : Operand} {t1 t2 : TypeId} {e : Operand → Value} {v1 v2 v : Value} (ho : IsOp o d (.call { callee := .builtin .copy, args := #[x, y], argTypes := #[t1, t2] })) (hx : e x = v1) (hy : e y = v2)
    (h : (Builtin.copy_ #[t1, t2] o.type #[v1, v2]).run P w = .ok v w') : (execOp e o).run P w = .ok (.value v) w' := by
  simp [execOp, ho.op, resolve, invoke, builtin, hx, hy, h]
theorem run_copy_wide {dT sT ty elem t : TypeId} {g o dLen dCap sLen sCap size k : Nat} {a : Addr} {cur : Array Value} {cs : List Value} {i : TypeInfo} (hu : P.underlying dT = some (.slice elem)) (hi : P.info? elem = some i) (hs : i.size = size)
    (hg : w.heap[g]? = some (.cells cur t (0, 0))) (hk : Nat.min sLen dLen = k) (hn : cs.length = k * size)
    (hsrc : ∀ (j : Nat) v, cs[j]? = some v → w.cell? (a.add j) = some v) (hfit : o + cs.length ≤ cur.size) (h1 : ∀ v ∈ cs, v.oneCell' = true) :
    (Builtin.copy_ #[dT, sT] ty #[.slice (some ⟨g, o, none⟩) dLen dCap, .slice (some a) sLen sCap]).run P w =
      .ok (goInt k) (w.setRow g (cur.toList.take o ++ cs ++ cur.toList.drop (o + cs.length)).toArray) := by
  have hl := run_loadCells_list (P := P) w a cs hsrc
  have hst := run_storeCells_at P g o t cs 0 cur w hg (by simpa using hfit) h1
  simp only [Nat.add_zero] at hst
  simp [Builtin.copy_, run_underlying hu, Builtin.lenOf, Builtin.firstCells, Go.sizeOf, typeInfo, hi, hs, hk, ← hn, hl, hst]
/-- .. of nothing -/
theorem run_copy_none {dT sT ty elem : TypeId} {dLen dCap sCap : Nat} {ad bs : Option Addr} {i : TypeInfo} (hu : P.underlying dT = some (.slice elem)) (hi : P.info? elem = some i) :
    (Builtin.copy_ #[dT, sT] ty #[.slice ad dLen dCap, .slice bs 0 sCap]).run P w = .ok (goInt 0) w := by
  cases ad <;> cases bs <;> simp [Builtin.copy_, run_underlying hu, Builtin.lenOf, Builtin.firstCells, Go.sizeOf, typeInfo, hi, storeCells, loadCells, loadCellsFrom]

/-- a region whose order is open, whose operations can be run one after the other: all but the last one yield what they yield wherever they stand -/
def inOrd (ops : Array Oper) : Nat → Nat → Array Bool → Bool
  | 0, i, listed => (Region.ready .any ops (listed.setIfInBounds i true)).isEmpty && (Region.ready .any ops listed == [i])
  | k + 1, i, listed => Region.free .any ops listed i && (Region.ready .any ops listed).contains i && inOrd ops k (i + 1) (listed.setIfInBounds i true)
def drawB (ops : Array Oper) : Bool := Region.noSelect ops && Nat.blt 0 ops.size && inOrd ops (ops.size - 1) 0 (Array.replicate ops.size false)
/-- from here on in order -/
structure InOrd (ops : Array Oper) (k i : Nat) (listed : Array Bool) : Prop where
  sel : Region.noSelect ops = true
  ord : inOrd ops k i listed = true
theorem Tm.draw {N : Act → World → Prop} {i d : Nat} {op : Op} {k : Nat} {listed : Array Bool} {v : Value} (htm : Tm a n σ) (hi : ops[i]? = some o) (ho : IsOp o d op) (hd : d < n) (hb : InOrd ops (k + 1) i listed) (hrun : ∀ w, (execOp (ev σ) o).run P w = .ok (.value v) w)
    (h : ∀ a', Tm a' n (upd σ d v) → InOrd ops k (i + 1) (listed.setIfInBounds i true) → wpAny P .any ops (Only N) (k + 1) (listed.setIfInBounds i true) a' w) : wpAny P .any ops (Only N) (k + 2) listed a w := by
  obtain ⟨hs, hb⟩ := hb
  simp only [inOrd, Bool.and_eq_true] at hb
  obtain ⟨⟨h1, h2⟩, h3⟩ := hb
  refine wpAny_take hi hs h1 h2 (fun c a w hq => hq.elim) (v := v) (.inl ⟨by simp [Region.wanted, ho.guard], fun w => by rw [htm.eval]; exact hrun w⟩) ?_
  rw [ho.dst]
  exact h _ (htm.put hd v) ⟨hs, h3⟩
theorem Tm.last {N : Act → World → Prop} {i d : Nat} {op : Op} {listed : Array Bool} {v : Value} (htm : Tm a n σ) (hi : ops[i]? = some o) (ho : IsOp o d op) (hd : d < n) (hb : InOrd ops 0 i listed) (hrun : (execOp (ev σ) o).run P w = .ok (.value v) w')
    (h : ∀ a', Tm a' n (upd σ d v) → N a' w') : wpAny P .any ops (Only N) 1 listed a w := by
  obtain ⟨hs, hb⟩ := hb
  simp only [inOrd, Bool.and_eq_true, List.isEmpty_iff, beq_iff_eq] at hb
  obtain ⟨h1, h2⟩ := hb
  refine wpAny_all h2 (by simp) ?_
  intro j hj
  simp only [List.mem_singleton] at hj
  subst hj
  unfold wpOp
  simp only [hi, Region.wanted, ho.guard, if_true]
  left
  unfold Oper.wp
  rw [htm.eval, hrun, Oper.upon_value, ho.dst]
  exact wpAny_done h1 (h _ (htm.put hd v)) 0
theorem wp_draw {id k : Nat} (hm : P.follows .mixedOrders = true) (hb : drawB ops = true) (hk : ops.size = k + 1) (h : InOrd ops k 0 (Array.replicate (k + 1) false) → wpAny P .any ops (Only fun a w => Q .normal a w) (k + 1) (Array.replicate (k + 1) false) a { w with drawn := w.drawn + 1 }) :
    (Code.region id ops true).wp P Q a w := by
  simp only [drawB, Bool.and_eq_true] at hb
  rw [hk] at hb
  refine Code.wp_mono ?_ (wp_region_any (Q := Only fun a w => Q .normal a w) hm (by rw [hk]; exact h ⟨hb.1.1, hb.2⟩))
  intro x a' w' hx
  cases x <;> first | exact hx | exact hx.elim
theorem Tm.cond {x : Operand} {b : Bool} {A B : Code} (htm : Tm a n σ) (hx : ev σ x = .bool b) (h : (if b then A else B).wp P Q a w) : (Code.cond x A B).wp P Q a w := by
  refine wp_cond (t := b) (by rw [htm.eval]; exact hx) h
end
end Dn
/-
  slices.Insert of the library, walked. Printed by a program. Conditions: none.
-/
set_option linter.unusedSimpArgs false
set_option linter.unusedVariables false
namespace Dn
open Go
def insCode (r : Nat → Nat) (o : Nat → Oper) (tail : Code) : Code :=
  .seq (.region (r 0) #[o 0] false) (.seq (.region (r 1) #[o 1, o 2, o 3] false) (.seq (.region (r 2) #[o 4, o 5, o 6] false) (.seq (.seq (.region (r 3) #[o 7, o 8] false) (.cond (.tmp 16) (.seq (.region (r 4) #[o 9, o 10] false) .ret) .skip)) (.seq (.region (r 5) #[o 11, o 12, o 13] false) (.seq (.seq (.region (r 6) #[o 14, o 15, o 16] false) (.cond (.tmp 22) (.seq (.region (r 7) #[o 17, o 18, o 19, o 20] false) .ret) .skip)) (.seq (.seq (.region (r 8) #[o 21, o 22, o 23, o 24, o 25, o 26] false) (.cond (.tmp 31) (.seq (.region (r 9) #[o 27, o 28, o 29, o 30, o 31, o 32, o 33, o 34, o 35, o 36] false) (.seq (.region (r 10) #[o 37, o 38, o 39, o 40, o 41] false) (.seq (.region (r 11) #[o 42, o 43, o 44, o 45, o 46, o 47, o 48, o 49, o 50] true) (.seq (.region (r 12) #[o 51, o 52] false) .ret)))) .skip)) (.seq (.region (r 13) #[o 53, o 54, o 55, o 56, o 57, o 58] false) (.seq (.seq (.region (r 14) #[o 59, o 60, o 61, o 62, o 63, o 64, o 65, o 66] false) (.cond (.tmp 68) (.seq (.region (r 15) #[o 67, o 68, o 69, o 70, o 71, o 72, o 73, o 74, o 75] true) (.seq (.region (r 16) #[o 76, o 77, o 78, o 79, o 80] false) (.seq (.region (r 17) #[o 81, o 82] false) .ret))) .skip)) tail))))))))
structure InsOps (t ti tb fo : Nat) (o : Nat → Oper) : Prop where
  h0 : IsOp (o 0) 6 (.assign (.const (.slice none 0 0)))
  h1 : IsOp (o 1) 10 (.move (.tmp 0))
  h2 : IsOp (o 2) 11 (.move (.tmp 1))
  h3 : IsOp (o 3) 12 (.slice t (.tmp 10) (some (.tmp 11)) none none)
  h4 : IsOp (o 4) 13 (.move (.tmp 2))
  h5 : IsOp (o 5) 14 (.call { callee := .builtin .len, args := #[.tmp 13], argTypes := #[t] })
  h6 : IsOp (o 6) 7 (.assign (.tmp 14))
  h7 : IsOp (o 7) 15 (.move (.tmp 7))
  h8 : IsOp (o 8) 16 (.binOp .eql ti (.tmp 15) (.const (.int .i64 0)) ti)
  h9 : IsOp (o 9) 17 (.move (.tmp 0))
  h10 : IsOp (o 10) 6 (.assign (.tmp 17))
  h11 : IsOp (o 11) 18 (.move (.tmp 0))
  h12 : IsOp (o 12) 19 (.call { callee := .builtin .len, args := #[.tmp 18], argTypes := #[t] })
  h13 : IsOp (o 13) 8 (.assign (.tmp 19))
  h14 : IsOp (o 14) 20 (.move (.tmp 1))
  h15 : IsOp (o 15) 21 (.move (.tmp 8))
  h16 : IsOp (o 16) 22 (.binOp .eql ti (.tmp 20) (.tmp 21) ti)
  h17 : IsOp (o 17) 23 (.move (.tmp 0))
  h18 : IsOp (o 18) 24 (.move (.tmp 2))
  h19 : IsOp (o 19) 25 (.call { callee := .builtin .append, args := #[.tmp 23, .tmp 24], argTypes := #[t, t] })
  h20 : IsOp (o 20) 6 (.assign (.tmp 25))
  h21 : IsOp (o 21) 26 (.move (.tmp 8))
  h22 : IsOp (o 22) 27 (.move (.tmp 7))
  h23 : IsOp (o 23) 28 (.binOp .add ti (.tmp 26) (.tmp 27) ti)
  h24 : IsOp (o 24) 29 (.move (.tmp 0))
  h25 : IsOp (o 25) 30 (.call { callee := .builtin .cap, args := #[.tmp 29], argTypes := #[t] })
  h26 : IsOp (o 26) 31 (.binOp .gtr ti (.tmp 28) (.tmp 30) ti)
  h27 : IsOp (o 27) 32 (.move (.tmp 0))
  h28 : IsOp (o 28) 33 (.move (.tmp 1))
  h29 : IsOp (o 29) 34 (.slice t (.tmp 32) none (some (.tmp 33)) none)
  h30 : IsOp (o 30) 35 (.move (.tmp 8))
  h31 : IsOp (o 31) 36 (.move (.tmp 7))
  h32 : IsOp (o 32) 37 (.binOp .add ti (.tmp 35) (.tmp 36) ti)
  h33 : IsOp (o 33) 38 (.move (.tmp 1))
  h34 : IsOp (o 34) 39 (.binOp .sub ti (.tmp 37) (.tmp 38) ti)
  h35 : IsOp (o 35) 40 (.call { callee := .builtin .append, args := #[.tmp 34, .tmp 39], argTypes := #[t, ti] })
  h36 : IsOp (o 36) 9 (.assign (.tmp 40))
  h37 : IsOp (o 37) 41 (.move (.tmp 9))
  h38 : IsOp (o 38) 42 (.move (.tmp 1))
  h39 : IsOp (o 39) 43 (.slice t (.tmp 41) (some (.tmp 42)) none none)
  h40 : IsOp (o 40) 44 (.move (.tmp 2))
  h41 : IsOp (o 41) 45 (.call { callee := .builtin .copy, args := #[.tmp 43, .tmp 44], argTypes := #[t, t] })
  h42 : IsOp (o 42) 46 (.move (.tmp 9))
  h43 : IsOp (o 43) 47 (.move (.tmp 1))
  h44 : IsOp (o 44) 48 (.move (.tmp 7))
  h45 : IsOp (o 45) 49 (.binOp .add ti (.tmp 47) (.tmp 48) ti)
  h46 : IsOp (o 46) 50 (.slice t (.tmp 46) (some (.tmp 49)) none none)
  h47 : IsOp (o 47) 51 (.move (.tmp 0))
  h48 : IsOp (o 48) 52 (.move (.tmp 1))
  h49 : IsOp (o 49) 53 (.slice t (.tmp 51) (some (.tmp 52)) none none)
  h50 : IsOp (o 50) 54 (.call { callee := .builtin .copy, args := #[.tmp 50, .tmp 53], argTypes := #[t, t] })
  h51 : IsOp (o 51) 55 (.move (.tmp 9))
  h52 : IsOp (o 52) 6 (.assign (.tmp 55))
  h53 : IsOp (o 53) 56 (.move (.tmp 0))
  h54 : IsOp (o 54) 57 (.move (.tmp 8))
  h55 : IsOp (o 55) 58 (.move (.tmp 7))
  h56 : IsOp (o 56) 59 (.binOp .add ti (.tmp 57) (.tmp 58) ti)
  h57 : IsOp (o 57) 60 (.slice t (.tmp 56) none (some (.tmp 59)) none)
  h58 : IsOp (o 58) 0 (.assign (.tmp 60))
  h59 : IsOp (o 59) 61 (.move (.tmp 2))
  h60 : IsOp (o 60) 62 (.move (.tmp 0))
  h61 : IsOp (o 61) 63 (.move (.tmp 1))
  h62 : IsOp (o 62) 64 (.move (.tmp 7))
  h63 : IsOp (o 63) 65 (.binOp .add ti (.tmp 63) (.tmp 64) ti)
  h64 : IsOp (o 64) 66 (.slice t (.tmp 62) (some (.tmp 65)) none none)
  h65 : IsOp (o 65) 67 (.call { callee := .value (.func fo), args := #[.tmp 61, .tmp 66], argTypes := #[t, t] })
  h66 : IsOp (o 66) 68 (.unOp .not tb (.tmp 67))
  h67 : IsOp (o 67) 69 (.move (.tmp 0))
  h68 : IsOp (o 68) 70 (.move (.tmp 1))
  h69 : IsOp (o 69) 71 (.move (.tmp 7))
  h70 : IsOp (o 70) 72 (.binOp .add ti (.tmp 70) (.tmp 71) ti)
  h71 : IsOp (o 71) 73 (.slice t (.tmp 69) (some (.tmp 72)) none none)
  h72 : IsOp (o 72) 74 (.move (.tmp 0))
  h73 : IsOp (o 73) 75 (.move (.tmp 1))
  h74 : IsOp (o 74) 76 (.slice t (.tmp 74) (some (.tmp 75)) none none)
  h75 : IsOp (o 75) 77 (.call { callee := .builtin .copy, args := #[.tmp 73, .tmp 76], argTypes := #[t, t] })
  h76 : IsOp (o 76) 78 (.move (.tmp 0))
  h77 : IsOp (o 77) 79 (.move (.tmp 1))
  h78 : IsOp (o 78) 80 (.slice t (.tmp 78) (some (.tmp 79)) none none)
  h79 : IsOp (o 79) 81 (.move (.tmp 2))
  h80 : IsOp (o 80) 82 (.call { callee := .builtin .copy, args := #[.tmp 80, .tmp 81], argTypes := #[t, t] })
  h81 : IsOp (o 81) 83 (.move (.tmp 0))
  h82 : IsOp (o 82) 6 (.assign (.tmp 83))
  d11 : drawB #[o 42, o 43, o 44, o 45, o 46, o 47, o 48, o 49, o 50] = true
  d15 : drawB #[o 67, o 68, o 69, o 70, o 71, o 72, o 73, o 74, o 75] = true
structure InsFn (P : Program) (f t ti tb el fo : Nat) (fn : Func) (r : Nat → Nat) (o : Nat → Oper) (tail : Code) : Prop where
  pos : P.funcs[f]? = some fn
  name : (fn.name == "runtime.NumGoroutine") = false
  tmps : fn.ntmps = 95
  res : fn.results = #[.tmp 6]
  body : fn.body = some (insCode r o tail)
  ops : InsOps t ti tb fo o
  mix : P.follows .mixedOrders = true
  und : P.underlying t = some (.slice el)
section
variable {P : Program} {f t ti tb el fo : Nat} {fn : Func} {r : Nat → Nat} {o : Nat → Oper} {tail : Code} {ie : TypeInfo} {size n m c c2 i g g2 : Nat} {ad : Option Addr} {w : World}
theorem ins_ret {a : Act} {w : World} {σ : Nat → Value} {R : Ending → World → Prop} {v : Value} (hr : fn.results = #[.tmp 6]) (htm : Tm a 95 σ) (h6 : σ 6 = v) (h : R (.returned v) w) : bodyPost P fn R .ret a w := by
  refine ⟨htm.defers, v, ?_, h⟩
  have h2 : a.tmps[6]?.getD undef = v := by have := htm.get 6; rw [h6] at this; simpa using this
  simp [results, hr, h2]
theorem ins_end (hf : InsFn P f t ti tb el fo fn r o tail) (hie : P.info? el = some ie) (hse : ie.size = size) (hm : 0 < m) (hn : n ≤ c) (hc : c < 2 ^ 63) (hnm : n + m < 2 ^ 63) (hi : i = n) {v : Value} {w1 : World} (hrun : ∀ ty, (Builtin.append_ #[t, t] ty #[.slice ad n c, .slice (some ⟨g2, 0, none⟩) m c2]).run P w = .ok v w1)
    : Calls P f #[.slice ad n c, .int .i64 ((i : Nat) : Int), .slice (some ⟨g2, 0, none⟩) m c2] w fun x w' => x = .returned v ∧ w' = w1 := by
  refine calls_of_wp hf.pos hf.body ?_
  rw [hf.tmps]
  have key : ∀ a : Act, Tm a 95 (upd (upd (upd (fun _ => undef) 0 (.slice ad n c)) 1 (.int .i64 ((i : Nat) : Int))) 2 (.slice (some ⟨g2, 0, none⟩) m c2)) → (insCode r o tail).wp P (bodyPost P fn fun x w' => x = .returned v ∧ w' = w1) a w := by
   intro a htm
   unfold insCode
   refine wp_seq (wp_region ?_)
   rw [show List.range (#[o 0] : Array Oper).size = [0] from rfl]
   refine htm.step (v := .slice none 0 0) rfl hf.ops.h0 (by decide) (run_asg hf.ops.h0 _) (fun a htm => ?_)
   refine wp_seq (wp_region ?_)
   rw [show List.range (#[o 1, o 2, o 3] : Array Oper).size = [0, 1, 2] from rfl]
   refine htm.step (v := .slice ad n c) rfl hf.ops.h1 (by decide) (run_mv hf.ops.h1 _) (fun a htm => ?_)
   refine htm.step (v := .int .i64 ((i : Nat) : Int)) rfl hf.ops.h2 (by decide) (run_mv hf.ops.h2 _) (fun a htm => ?_)
   refine htm.step (v := .slice (if c = i then ad else (ad : Option Addr).map (·.add (i * size))) (n - i) (c - i)) rfl hf.ops.h3 (by decide) (run_from hf.ops.h3 hf.und hie hse rfl rfl (by omega) _) (fun a htm => ?_)
   refine wp_seq (wp_region ?_)
   rw [show List.range (#[o 4, o 5, o 6] : Array Oper).size = [0, 1, 2] from rfl]
   refine htm.step (v := .slice (some ⟨g2, 0, none⟩) m c2) rfl hf.ops.h4 (by decide) (run_mv hf.ops.h4 _) (fun a htm => ?_)
   refine htm.step (v := .int .i64 ((m : Nat) : Int)) rfl hf.ops.h5 (by decide) (run_len hf.ops.h5 hf.und rfl _) (fun a htm => ?_)
   refine htm.step (v := .int .i64 ((m : Nat) : Int)) rfl hf.ops.h6 (by decide) (run_asg hf.ops.h6 _) (fun a htm => ?_)
   refine wp_seq ?_
   refine wp_seq (wp_region ?_)
   rw [show List.range (#[o 7, o 8] : Array Oper).size = [0, 1] from rfl]
   refine htm.step (v := .int .i64 ((m : Nat) : Int)) rfl hf.ops.h7 (by decide) (run_mv hf.ops.h7 _) (fun a htm => ?_)
   refine htm.step (v := .bool (decide (((m : Nat) : Int) = ((0 : Nat) : Int)))) rfl hf.ops.h8 (by decide) (run_ieq hf.ops.h8 rfl rfl _) (fun a htm => ?_)
   refine htm.cond (b := false) (by show Value.bool (decide (((m : Nat) : Int) = ((0 : Nat) : Int))) = _; rw [decide_eq_false (by omega)]) ?_
   simp only [Bool.false_eq_true, if_false]
   refine wp_skip ?_
   refine wp_seq (wp_region ?_)
   rw [show List.range (#[o 11, o 12, o 13] : Array Oper).size = [0, 1, 2] from rfl]
   refine htm.step (v := .slice ad n c) rfl hf.ops.h11 (by decide) (run_mv hf.ops.h11 _) (fun a htm => ?_)
   refine htm.step (v := .int .i64 ((n : Nat) : Int)) rfl hf.ops.h12 (by decide) (run_len hf.ops.h12 hf.und rfl _) (fun a htm => ?_)
   refine htm.step (v := .int .i64 ((n : Nat) : Int)) rfl hf.ops.h13 (by decide) (run_asg hf.ops.h13 _) (fun a htm => ?_)
   refine wp_seq ?_
   refine wp_seq (wp_region ?_)
   rw [show List.range (#[o 14, o 15, o 16] : Array Oper).size = [0, 1, 2] from rfl]
   refine htm.step (v := .int .i64 ((i : Nat) : Int)) rfl hf.ops.h14 (by decide) (run_mv hf.ops.h14 _) (fun a htm => ?_)
   refine htm.step (v := .int .i64 ((n : Nat) : Int)) rfl hf.ops.h15 (by decide) (run_mv hf.ops.h15 _) (fun a htm => ?_)
   refine htm.step (v := .bool (decide (((i : Nat) : Int) = ((n : Nat) : Int)))) rfl hf.ops.h16 (by decide) (run_ieq hf.ops.h16 rfl rfl _) (fun a htm => ?_)
   refine htm.cond (b := true) (by show Value.bool (decide (((i : Nat) : Int) = ((n : Nat) : Int))) = _; rw [decide_eq_true (by omega)]) ?_
   simp only [if_true]
   refine wp_seq (wp_region ?_)
   rw [show List.range (#[o 17, o 18, o 19, o 20] : Array Oper).size = [0, 1, 2, 3] from rfl]
   refine htm.step (v := .slice ad n c) rfl hf.ops.h17 (by decide) (run_mv hf.ops.h17 _) (fun a htm => ?_)
   refine htm.step (v := .slice (some ⟨g2, 0, none⟩) m c2) rfl hf.ops.h18 (by decide) (run_mv hf.ops.h18 _) (fun a htm => ?_)
   refine htm.step (v := v) rfl hf.ops.h19 (by decide) (run_app2 hf.ops.h19 rfl rfl (hrun _)) (fun a htm => ?_)
   refine htm.step (v := v) rfl hf.ops.h20 (by decide) (run_asg hf.ops.h20 _) (fun a htm => ?_)
   refine wp_ret ?_
   show bodyPost P fn (fun x wq => x = .returned (v) ∧ wq = w1) .ret a w1
   refine ins_ret hf.res htm (v := v) rfl ?_
   exact ⟨rfl, rfl⟩
  exact key _ (tm3 _ _ _ 92)
theorem ins_grow (hf : InsFn P f t ti tb el fo fn r o tail) (hie : P.info? el = some ie) (hse : ie.size = size) (hm : 0 < m) (hn : n ≤ c) (hc : c < 2 ^ 63) (hnm : n + m < 2 ^ 63) (hi : i < n) (hroom : c < n + m) {g9 G : Nat} {v1 v2 : Value} {w1 w2 w3 : World} (hG : n + m ≤ G) (hA : ∀ ty, (Builtin.append_ #[t, ti] ty #[.slice (some ⟨g, 0, none⟩) i c, .int .i64 ((n + m - i : Nat) : Int)]).run P w = .ok (.slice (some ⟨g9, 0, none⟩) (n + m) G) w1)
    (hB : ∀ ty, (Builtin.copy_ #[t, t] ty #[.slice (some ⟨g9, i * size, none⟩) (n + m - i) (G - i), .slice (some ⟨g2, 0, none⟩) m c2]).run P w1 = .ok v1 w2)
    (hC : ∀ ty, (Builtin.copy_ #[t, t] ty #[.slice (some ⟨g9, (i + m) * size, none⟩) (n + m - (i + m)) (G - (i + m)), .slice (some ⟨g, i * size, none⟩) (n - i) (c - i)]).run P { w2 with drawn := w2.drawn + 1 } = .ok v2 w3)
    : Calls P f #[.slice (some ⟨g, 0, none⟩) n c, .int .i64 ((i : Nat) : Int), .slice (some ⟨g2, 0, none⟩) m c2] w fun x w' => x = .returned (.slice (some ⟨g9, 0, none⟩) (n + m) G) ∧ w' = w3 := by
  refine calls_of_wp hf.pos hf.body ?_
  rw [hf.tmps]
  have key : ∀ a : Act, Tm a 95 (upd (upd (upd (fun _ => undef) 0 (.slice (some ⟨g, 0, none⟩) n c)) 1 (.int .i64 ((i : Nat) : Int))) 2 (.slice (some ⟨g2, 0, none⟩) m c2)) → (insCode r o tail).wp P (bodyPost P fn fun x w' => x = .returned (.slice (some ⟨g9, 0, none⟩) (n + m) G) ∧ w' = w3) a w := by
   intro a htm
   unfold insCode
   refine wp_seq (wp_region ?_)
   rw [show List.range (#[o 0] : Array Oper).size = [0] from rfl]
   refine htm.step (v := .slice none 0 0) rfl hf.ops.h0 (by decide) (run_asg hf.ops.h0 _) (fun a htm => ?_)
   refine wp_seq (wp_region ?_)
   rw [show List.range (#[o 1, o 2, o 3] : Array Oper).size = [0, 1, 2] from rfl]
   refine htm.step (v := .slice (some ⟨g, 0, none⟩) n c) rfl hf.ops.h1 (by decide) (run_mv hf.ops.h1 _) (fun a htm => ?_)
   refine htm.step (v := .int .i64 ((i : Nat) : Int)) rfl hf.ops.h2 (by decide) (run_mv hf.ops.h2 _) (fun a htm => ?_)
   refine htm.step (v := .slice (if c = i then (some ⟨g, 0, none⟩) else ((some ⟨g, 0, none⟩) : Option Addr).map (·.add (i * size))) (n - i) (c - i)) rfl hf.ops.h3 (by decide) (run_from hf.ops.h3 hf.und hie hse rfl rfl (by omega) _) (fun a htm => ?_)
   refine wp_seq (wp_region ?_)
   rw [show List.range (#[o 4, o 5, o 6] : Array Oper).size = [0, 1, 2] from rfl]
   refine htm.step (v := .slice (some ⟨g2, 0, none⟩) m c2) rfl hf.ops.h4 (by decide) (run_mv hf.ops.h4 _) (fun a htm => ?_)
   refine htm.step (v := .int .i64 ((m : Nat) : Int)) rfl hf.ops.h5 (by decide) (run_len hf.ops.h5 hf.und rfl _) (fun a htm => ?_)
   refine htm.step (v := .int .i64 ((m : Nat) : Int)) rfl hf.ops.h6 (by decide) (run_asg hf.ops.h6 _) (fun a htm => ?_)
   refine wp_seq ?_
   refine wp_seq (wp_region ?_)
   rw [show List.range (#[o 7, o 8] : Array Oper).size = [0, 1] from rfl]
   refine htm.step (v := .int .i64 ((m : Nat) : Int)) rfl hf.ops.h7 (by decide) (run_mv hf.ops.h7 _) (fun a htm => ?_)
   refine htm.step (v := .bool (decide (((m : Nat) : Int) = ((0 : Nat) : Int)))) rfl hf.ops.h8 (by decide) (run_ieq hf.ops.h8 rfl rfl _) (fun a htm => ?_)
   refine htm.cond (b := false) (by show Value.bool (decide (((m : Nat) : Int) = ((0 : Nat) : Int))) = _; rw [decide_eq_false (by omega)]) ?_
   simp only [Bool.false_eq_true, if_false]
   refine wp_skip ?_
   refine wp_seq (wp_region ?_)
   rw [show List.range (#[o 11, o 12, o 13] : Array Oper).size = [0, 1, 2] from rfl]
   refine htm.step (v := .slice (some ⟨g, 0, none⟩) n c) rfl hf.ops.h11 (by decide) (run_mv hf.ops.h11 _) (fun a htm => ?_)
   refine htm.step (v := .int .i64 ((n : Nat) : Int)) rfl hf.ops.h12 (by decide) (run_len hf.ops.h12 hf.und rfl _) (fun a htm => ?_)
   refine htm.step (v := .int .i64 ((n : Nat) : Int)) rfl hf.ops.h13 (by decide) (run_asg hf.ops.h13 _) (fun a htm => ?_)
   refine wp_seq ?_
   refine wp_seq (wp_region ?_)
   rw [show List.range (#[o 14, o 15, o 16] : Array Oper).size = [0, 1, 2] from rfl]
   refine htm.step (v := .int .i64 ((i : Nat) : Int)) rfl hf.ops.h14 (by decide) (run_mv hf.ops.h14 _) (fun a htm => ?_)
   refine htm.step (v := .int .i64 ((n : Nat) : Int)) rfl hf.ops.h15 (by decide) (run_mv hf.ops.h15 _) (fun a htm => ?_)
   refine htm.step (v := .bool (decide (((i : Nat) : Int) = ((n : Nat) : Int)))) rfl hf.ops.h16 (by decide) (run_ieq hf.ops.h16 rfl rfl _) (fun a htm => ?_)
   refine htm.cond (b := false) (by show Value.bool (decide (((i : Nat) : Int) = ((n : Nat) : Int))) = _; rw [decide_eq_false (by omega)]) ?_
   simp only [Bool.false_eq_true, if_false]
   refine wp_skip ?_
   refine wp_seq ?_
   refine wp_seq (wp_region ?_)
   rw [show List.range (#[o 21, o 22, o 23, o 24, o 25, o 26] : Array Oper).size = [0, 1, 2, 3, 4, 5] from rfl]
   refine htm.step (v := .int .i64 ((n : Nat) : Int)) rfl hf.ops.h21 (by decide) (run_mv hf.ops.h21 _) (fun a htm => ?_)
   refine htm.step (v := .int .i64 ((m : Nat) : Int)) rfl hf.ops.h22 (by decide) (run_mv hf.ops.h22 _) (fun a htm => ?_)
   refine htm.step (v := .int .i64 ((n + m : Nat) : Int)) rfl hf.ops.h23 (by decide) (run_iadd hf.ops.h23 rfl rfl (by omega) _) (fun a htm => ?_)
   refine htm.step (v := .slice (some ⟨g, 0, none⟩) n c) rfl hf.ops.h24 (by decide) (run_mv hf.ops.h24 _) (fun a htm => ?_)
   refine htm.step (v := .int .i64 ((c : Nat) : Int)) rfl hf.ops.h25 (by decide) (run_cap hf.ops.h25 hf.und rfl _) (fun a htm => ?_)
   refine htm.step (v := .bool (decide (((c : Nat) : Int) < (((n + m) : Nat) : Int)))) rfl hf.ops.h26 (by decide) (run_igtr hf.ops.h26 rfl rfl _) (fun a htm => ?_)
   refine htm.cond (b := true) (by show Value.bool (decide (((c : Nat) : Int) < ((n + m : Nat) : Int))) = _; rw [decide_eq_true (by omega)]) ?_
   simp only [if_true]
   refine wp_seq (wp_region ?_)
   rw [show List.range (#[o 27, o 28, o 29, o 30, o 31, o 32, o 33, o 34, o 35, o 36] : Array Oper).size = [0, 1, 2, 3, 4, 5, 6, 7, 8, 9] from rfl]
   refine htm.step (v := .slice (some ⟨g, 0, none⟩) n c) rfl hf.ops.h27 (by decide) (run_mv hf.ops.h27 _) (fun a htm => ?_)
   refine htm.step (v := .int .i64 ((i : Nat) : Int)) rfl hf.ops.h28 (by decide) (run_mv hf.ops.h28 _) (fun a htm => ?_)
   refine htm.step (v := .slice (some ⟨g, 0, none⟩) i c) rfl hf.ops.h29 (by decide) (run_upto hf.ops.h29 hf.und hie hse rfl rfl (by omega) _) (fun a htm => ?_)
   refine htm.step (v := .int .i64 ((n : Nat) : Int)) rfl hf.ops.h30 (by decide) (run_mv hf.ops.h30 _) (fun a htm => ?_)
   refine htm.step (v := .int .i64 ((m : Nat) : Int)) rfl hf.ops.h31 (by decide) (run_mv hf.ops.h31 _) (fun a htm => ?_)
   refine htm.step (v := .int .i64 ((n + m : Nat) : Int)) rfl hf.ops.h32 (by decide) (run_iadd hf.ops.h32 rfl rfl (by omega) _) (fun a htm => ?_)
   refine htm.step (v := .int .i64 ((i : Nat) : Int)) rfl hf.ops.h33 (by decide) (run_mv hf.ops.h33 _) (fun a htm => ?_)
   refine htm.step (v := .int .i64 (((n + m) - i : Nat) : Int)) rfl hf.ops.h34 (by decide) (run_isub hf.ops.h34 rfl rfl (by omega) (by omega) _) (fun a htm => ?_)
   refine htm.step (v := .slice (some ⟨g9, 0, none⟩) (n + m) G) rfl hf.ops.h35 (by decide) (run_app2 hf.ops.h35 rfl rfl (hA _)) (fun a htm => ?_)
   refine htm.step (v := .slice (some ⟨g9, 0, none⟩) (n + m) G) rfl hf.ops.h36 (by decide) (run_asg hf.ops.h36 _) (fun a htm => ?_)
   refine wp_seq (wp_region ?_)
   rw [show List.range (#[o 37, o 38, o 39, o 40, o 41] : Array Oper).size = [0, 1, 2, 3, 4] from rfl]
   refine htm.step (v := .slice (some ⟨g9, 0, none⟩) (n + m) G) rfl hf.ops.h37 (by decide) (run_mv hf.ops.h37 _) (fun a htm => ?_)
   refine htm.step (v := .int .i64 ((i : Nat) : Int)) rfl hf.ops.h38 (by decide) (run_mv hf.ops.h38 _) (fun a htm => ?_)
   refine htm.step (v := .slice (some ⟨g9, i * size, none⟩) (n + m - i) (G - i)) rfl hf.ops.h39 (by decide) (run_fromA hf.ops.h39 hf.und hie hse rfl rfl (by omega) (by omega) _) (fun a htm => ?_)
   refine htm.step (v := .slice (some ⟨g2, 0, none⟩) m c2) rfl hf.ops.h40 (by decide) (run_mv hf.ops.h40 _) (fun a htm => ?_)
   refine htm.step (v := v1) rfl hf.ops.h41 (by decide) (run_cpy2 hf.ops.h41 rfl rfl (hB _)) (fun a htm => ?_)
   refine wp_seq (wp_draw hf.mix hf.ops.d11 (k := 8) rfl fun hord => ?_)
   refine htm.draw (v := .slice (some ⟨g9, 0, none⟩) (n + m) G) rfl hf.ops.h42 (by decide) hord (fun w => run_mv hf.ops.h42 _) (fun a htm hord => ?_)
   refine htm.draw (v := .int .i64 ((i : Nat) : Int)) rfl hf.ops.h43 (by decide) hord (fun w => run_mv hf.ops.h43 _) (fun a htm hord => ?_)
   refine htm.draw (v := .int .i64 ((m : Nat) : Int)) rfl hf.ops.h44 (by decide) hord (fun w => run_mv hf.ops.h44 _) (fun a htm hord => ?_)
   refine htm.draw (v := .int .i64 ((i + m : Nat) : Int)) rfl hf.ops.h45 (by decide) hord (fun w => run_iadd hf.ops.h45 rfl rfl (by omega) _) (fun a htm hord => ?_)
   refine htm.draw (v := .slice (some ⟨g9, (i + m) * size, none⟩) (n + m - (i + m)) (G - (i + m))) rfl hf.ops.h46 (by decide) hord (fun w => run_fromA hf.ops.h46 hf.und hie hse rfl rfl (by omega) (by omega) _) (fun a htm hord => ?_)
   refine htm.draw (v := .slice (some ⟨g, 0, none⟩) n c) rfl hf.ops.h47 (by decide) hord (fun w => run_mv hf.ops.h47 _) (fun a htm hord => ?_)
   refine htm.draw (v := .int .i64 ((i : Nat) : Int)) rfl hf.ops.h48 (by decide) hord (fun w => run_mv hf.ops.h48 _) (fun a htm hord => ?_)
   refine htm.draw (v := .slice (some ⟨g, i * size, none⟩) (n - i) (c - i)) rfl hf.ops.h49 (by decide) hord (fun w => run_fromA hf.ops.h49 hf.und hie hse rfl rfl (by omega) (by omega) _) (fun a htm hord => ?_)
   refine htm.last (v := v2) rfl hf.ops.h50 (by decide) hord (run_cpy2 hf.ops.h50 rfl rfl (hC _)) (fun a htm => ?_)
   refine wp_seq (wp_region ?_)
   rw [show List.range (#[o 51, o 52] : Array Oper).size = [0, 1] from rfl]
   refine htm.step (v := .slice (some ⟨g9, 0, none⟩) (n + m) G) rfl hf.ops.h51 (by decide) (run_mv hf.ops.h51 _) (fun a htm => ?_)
   refine htm.step (v := .slice (some ⟨g9, 0, none⟩) (n + m) G) rfl hf.ops.h52 (by decide) (run_asg hf.ops.h52 _) (fun a htm => ?_)
   refine wp_ret ?_
   show bodyPost P fn (fun x wq => x = .returned (.slice (some ⟨g9, 0, none⟩) (n + m) G) ∧ wq = w3) .ret a w3
   refine ins_ret hf.res htm (v := .slice (some ⟨g9, 0, none⟩) (n + m) G) rfl ?_
   exact ⟨rfl, rfl⟩
  exact key _ (tm3 _ _ _ 92)
theorem ins_room (hf : InsFn P f t ti tb el fo fn r o tail) (hie : P.info? el = some ie) (hse : ie.size = size) (hm : 0 < m) (hn : n ≤ c) (hc : c < 2 ^ 63) (hnm : n + m < 2 ^ 63) (hi : i < n) (hroom : n + m ≤ c) {v1 v2 : Value} {w1 w2 : World} (hO : (callFunc fo #[.slice (some ⟨g2, 0, none⟩) m c2, .slice (some ⟨g, (i + m) * size, none⟩) (n + m - (i + m)) (c - (i + m))]).run P w = .ok (.value (.bool false)) w)
    (hB : ∀ ty, (Builtin.copy_ #[t, t] ty #[.slice (some ⟨g, (i + m) * size, none⟩) (n + m - (i + m)) (c - (i + m)), .slice (some ⟨g, i * size, none⟩) (n + m - i) (c - i)]).run P { w with drawn := w.drawn + 1 } = .ok v1 w1)
    (hC : ∀ ty, (Builtin.copy_ #[t, t] ty #[.slice (some ⟨g, i * size, none⟩) (n + m - i) (c - i), .slice (some ⟨g2, 0, none⟩) m c2]).run P w1 = .ok v2 w2)
    : Calls P f #[.slice (some ⟨g, 0, none⟩) n c, .int .i64 ((i : Nat) : Int), .slice (some ⟨g2, 0, none⟩) m c2] w fun x w' => x = .returned (.slice (some ⟨g, 0, none⟩) (n + m) c) ∧ w' = w2 := by
  refine calls_of_wp hf.pos hf.body ?_
  rw [hf.tmps]
  have key : ∀ a : Act, Tm a 95 (upd (upd (upd (fun _ => undef) 0 (.slice (some ⟨g, 0, none⟩) n c)) 1 (.int .i64 ((i : Nat) : Int))) 2 (.slice (some ⟨g2, 0, none⟩) m c2)) → (insCode r o tail).wp P (bodyPost P fn fun x w' => x = .returned (.slice (some ⟨g, 0, none⟩) (n + m) c) ∧ w' = w2) a w := by
   intro a htm
   unfold insCode
   refine wp_seq (wp_region ?_)
   rw [show List.range (#[o 0] : Array Oper).size = [0] from rfl]
   refine htm.step (v := .slice none 0 0) rfl hf.ops.h0 (by decide) (run_asg hf.ops.h0 _) (fun a htm => ?_)
   refine wp_seq (wp_region ?_)
   rw [show List.range (#[o 1, o 2, o 3] : Array Oper).size = [0, 1, 2] from rfl]
   refine htm.step (v := .slice (some ⟨g, 0, none⟩) n c) rfl hf.ops.h1 (by decide) (run_mv hf.ops.h1 _) (fun a htm => ?_)
   refine htm.step (v := .int .i64 ((i : Nat) : Int)) rfl hf.ops.h2 (by decide) (run_mv hf.ops.h2 _) (fun a htm => ?_)
   refine htm.step (v := .slice (if c = i then (some ⟨g, 0, none⟩) else ((some ⟨g, 0, none⟩) : Option Addr).map (·.add (i * size))) (n - i) (c - i)) rfl hf.ops.h3 (by decide) (run_from hf.ops.h3 hf.und hie hse rfl rfl (by omega) _) (fun a htm => ?_)
   refine wp_seq (wp_region ?_)
   rw [show List.range (#[o 4, o 5, o 6] : Array Oper).size = [0, 1, 2] from rfl]
   refine htm.step (v := .slice (some ⟨g2, 0, none⟩) m c2) rfl hf.ops.h4 (by decide) (run_mv hf.ops.h4 _) (fun a htm => ?_)
   refine htm.step (v := .int .i64 ((m : Nat) : Int)) rfl hf.ops.h5 (by decide) (run_len hf.ops.h5 hf.und rfl _) (fun a htm => ?_)
   refine htm.step (v := .int .i64 ((m : Nat) : Int)) rfl hf.ops.h6 (by decide) (run_asg hf.ops.h6 _) (fun a htm => ?_)
   refine wp_seq ?_
   refine wp_seq (wp_region ?_)
   rw [show List.range (#[o 7, o 8] : Array Oper).size = [0, 1] from rfl]
   refine htm.step (v := .int .i64 ((m : Nat) : Int)) rfl hf.ops.h7 (by decide) (run_mv hf.ops.h7 _) (fun a htm => ?_)
   refine htm.step (v := .bool (decide (((m : Nat) : Int) = ((0 : Nat) : Int)))) rfl hf.ops.h8 (by decide) (run_ieq hf.ops.h8 rfl rfl _) (fun a htm => ?_)
   refine htm.cond (b := false) (by show Value.bool (decide (((m : Nat) : Int) = ((0 : Nat) : Int))) = _; rw [decide_eq_false (by omega)]) ?_
   simp only [Bool.false_eq_true, if_false]
   refine wp_skip ?_
   refine wp_seq (wp_region ?_)
   rw [show List.range (#[o 11, o 12, o 13] : Array Oper).size = [0, 1, 2] from rfl]
   refine htm.step (v := .slice (some ⟨g, 0, none⟩) n c) rfl hf.ops.h11 (by decide) (run_mv hf.ops.h11 _) (fun a htm => ?_)
   refine htm.step (v := .int .i64 ((n : Nat) : Int)) rfl hf.ops.h12 (by decide) (run_len hf.ops.h12 hf.und rfl _) (fun a htm => ?_)
   refine htm.step (v := .int .i64 ((n : Nat) : Int)) rfl hf.ops.h13 (by decide) (run_asg hf.ops.h13 _) (fun a htm => ?_)
   refine wp_seq ?_
   refine wp_seq (wp_region ?_)
   rw [show List.range (#[o 14, o 15, o 16] : Array Oper).size = [0, 1, 2] from rfl]
   refine htm.step (v := .int .i64 ((i : Nat) : Int)) rfl hf.ops.h14 (by decide) (run_mv hf.ops.h14 _) (fun a htm => ?_)
   refine htm.step (v := .int .i64 ((n : Nat) : Int)) rfl hf.ops.h15 (by decide) (run_mv hf.ops.h15 _) (fun a htm => ?_)
   refine htm.step (v := .bool (decide (((i : Nat) : Int) = ((n : Nat) : Int)))) rfl hf.ops.h16 (by decide) (run_ieq hf.ops.h16 rfl rfl _) (fun a htm => ?_)
   refine htm.cond (b := false) (by show Value.bool (decide (((i : Nat) : Int) = ((n : Nat) : Int))) = _; rw [decide_eq_false (by omega)]) ?_
   simp only [Bool.false_eq_true, if_false]
   refine wp_skip ?_
   refine wp_seq ?_
   refine wp_seq (wp_region ?_)
   rw [show List.range (#[o 21, o 22, o 23, o 24, o 25, o 26] : Array Oper).size = [0, 1, 2, 3, 4, 5] from rfl]
   refine htm.step (v := .int .i64 ((n : Nat) : Int)) rfl hf.ops.h21 (by decide) (run_mv hf.ops.h21 _) (fun a htm => ?_)
   refine htm.step (v := .int .i64 ((m : Nat) : Int)) rfl hf.ops.h22 (by decide) (run_mv hf.ops.h22 _) (fun a htm => ?_)
   refine htm.step (v := .int .i64 ((n + m : Nat) : Int)) rfl hf.ops.h23 (by decide) (run_iadd hf.ops.h23 rfl rfl (by omega) _) (fun a htm => ?_)
   refine htm.step (v := .slice (some ⟨g, 0, none⟩) n c) rfl hf.ops.h24 (by decide) (run_mv hf.ops.h24 _) (fun a htm => ?_)
   refine htm.step (v := .int .i64 ((c : Nat) : Int)) rfl hf.ops.h25 (by decide) (run_cap hf.ops.h25 hf.und rfl _) (fun a htm => ?_)
   refine htm.step (v := .bool (decide (((c : Nat) : Int) < (((n + m) : Nat) : Int)))) rfl hf.ops.h26 (by decide) (run_igtr hf.ops.h26 rfl rfl _) (fun a htm => ?_)
   refine htm.cond (b := false) (by show Value.bool (decide (((c : Nat) : Int) < ((n + m : Nat) : Int))) = _; rw [decide_eq_false (by omega)]) ?_
   simp only [Bool.false_eq_true, if_false]
   refine wp_skip ?_
   refine wp_seq (wp_region ?_)
   rw [show List.range (#[o 53, o 54, o 55, o 56, o 57, o 58] : Array Oper).size = [0, 1, 2, 3, 4, 5] from rfl]
   refine htm.step (v := .slice (some ⟨g, 0, none⟩) n c) rfl hf.ops.h53 (by decide) (run_mv hf.ops.h53 _) (fun a htm => ?_)
   refine htm.step (v := .int .i64 ((n : Nat) : Int)) rfl hf.ops.h54 (by decide) (run_mv hf.ops.h54 _) (fun a htm => ?_)
   refine htm.step (v := .int .i64 ((m : Nat) : Int)) rfl hf.ops.h55 (by decide) (run_mv hf.ops.h55 _) (fun a htm => ?_)
   refine htm.step (v := .int .i64 ((n + m : Nat) : Int)) rfl hf.ops.h56 (by decide) (run_iadd hf.ops.h56 rfl rfl (by omega) _) (fun a htm => ?_)
   refine htm.step (v := .slice (some ⟨g, 0, none⟩) (n + m) c) rfl hf.ops.h57 (by decide) (run_upto hf.ops.h57 hf.und hie hse rfl rfl (by omega) _) (fun a htm => ?_)
   refine htm.step (v := .slice (some ⟨g, 0, none⟩) (n + m) c) rfl hf.ops.h58 (by decide) (run_asg hf.ops.h58 _) (fun a htm => ?_)
   refine wp_seq ?_
   refine wp_seq (wp_region ?_)
   rw [show List.range (#[o 59, o 60, o 61, o 62, o 63, o 64, o 65, o 66] : Array Oper).size = [0, 1, 2, 3, 4, 5, 6, 7] from rfl]
   refine htm.step (v := .slice (some ⟨g2, 0, none⟩) m c2) rfl hf.ops.h59 (by decide) (run_mv hf.ops.h59 _) (fun a htm => ?_)
   refine htm.step (v := .slice (some ⟨g, 0, none⟩) (n + m) c) rfl hf.ops.h60 (by decide) (run_mv hf.ops.h60 _) (fun a htm => ?_)
   refine htm.step (v := .int .i64 ((i : Nat) : Int)) rfl hf.ops.h61 (by decide) (run_mv hf.ops.h61 _) (fun a htm => ?_)
   refine htm.step (v := .int .i64 ((m : Nat) : Int)) rfl hf.ops.h62 (by decide) (run_mv hf.ops.h62 _) (fun a htm => ?_)
   refine htm.step (v := .int .i64 ((i + m : Nat) : Int)) rfl hf.ops.h63 (by decide) (run_iadd hf.ops.h63 rfl rfl (by omega) _) (fun a htm => ?_)
   refine htm.step (v := .slice (some ⟨g, (i + m) * size, none⟩) (n + m - (i + m)) (c - (i + m))) rfl hf.ops.h64 (by decide) (run_fromA hf.ops.h64 hf.und hie hse rfl rfl (by omega) (by omega) _) (fun a htm => ?_)
   refine htm.step (v := .bool false) rfl hf.ops.h65 (by decide) (run_ext hf.ops.h65 rfl rfl rfl hO) (fun a htm => ?_)
   refine htm.step (v := .bool (!false)) rfl hf.ops.h66 (by decide) (run_not hf.ops.h66 rfl _) (fun a htm => ?_)
   refine htm.cond (b := true) rfl ?_
   simp only [if_true]
   refine wp_seq (wp_draw hf.mix hf.ops.d15 (k := 8) rfl fun hord => ?_)
   refine htm.draw (v := .slice (some ⟨g, 0, none⟩) (n + m) c) rfl hf.ops.h67 (by decide) hord (fun w => run_mv hf.ops.h67 _) (fun a htm hord => ?_)
   refine htm.draw (v := .int .i64 ((i : Nat) : Int)) rfl hf.ops.h68 (by decide) hord (fun w => run_mv hf.ops.h68 _) (fun a htm hord => ?_)
   refine htm.draw (v := .int .i64 ((m : Nat) : Int)) rfl hf.ops.h69 (by decide) hord (fun w => run_mv hf.ops.h69 _) (fun a htm hord => ?_)
   refine htm.draw (v := .int .i64 ((i + m : Nat) : Int)) rfl hf.ops.h70 (by decide) hord (fun w => run_iadd hf.ops.h70 rfl rfl (by omega) _) (fun a htm hord => ?_)
   refine htm.draw (v := .slice (some ⟨g, (i + m) * size, none⟩) (n + m - (i + m)) (c - (i + m))) rfl hf.ops.h71 (by decide) hord (fun w => run_fromA hf.ops.h71 hf.und hie hse rfl rfl (by omega) (by omega) _) (fun a htm hord => ?_)
   refine htm.draw (v := .slice (some ⟨g, 0, none⟩) (n + m) c) rfl hf.ops.h72 (by decide) hord (fun w => run_mv hf.ops.h72 _) (fun a htm hord => ?_)
   refine htm.draw (v := .int .i64 ((i : Nat) : Int)) rfl hf.ops.h73 (by decide) hord (fun w => run_mv hf.ops.h73 _) (fun a htm hord => ?_)
   refine htm.draw (v := .slice (some ⟨g, i * size, none⟩) (n + m - i) (c - i)) rfl hf.ops.h74 (by decide) hord (fun w => run_fromA hf.ops.h74 hf.und hie hse rfl rfl (by omega) (by omega) _) (fun a htm hord => ?_)
   refine htm.last (v := v1) rfl hf.ops.h75 (by decide) hord (run_cpy2 hf.ops.h75 rfl rfl (hB _)) (fun a htm => ?_)
   refine wp_seq (wp_region ?_)
   rw [show List.range (#[o 76, o 77, o 78, o 79, o 80] : Array Oper).size = [0, 1, 2, 3, 4] from rfl]
   refine htm.step (v := .slice (some ⟨g, 0, none⟩) (n + m) c) rfl hf.ops.h76 (by decide) (run_mv hf.ops.h76 _) (fun a htm => ?_)
   refine htm.step (v := .int .i64 ((i : Nat) : Int)) rfl hf.ops.h77 (by decide) (run_mv hf.ops.h77 _) (fun a htm => ?_)
   refine htm.step (v := .slice (some ⟨g, i * size, none⟩) (n + m - i) (c - i)) rfl hf.ops.h78 (by decide) (run_fromA hf.ops.h78 hf.und hie hse rfl rfl (by omega) (by omega) _) (fun a htm => ?_)
   refine htm.step (v := .slice (some ⟨g2, 0, none⟩) m c2) rfl hf.ops.h79 (by decide) (run_mv hf.ops.h79 _) (fun a htm => ?_)
   refine htm.step (v := v2) rfl hf.ops.h80 (by decide) (run_cpy2 hf.ops.h80 rfl rfl (hC _)) (fun a htm => ?_)
   refine wp_seq (wp_region ?_)
   rw [show List.range (#[o 81, o 82] : Array Oper).size = [0, 1] from rfl]
   refine htm.step (v := .slice (some ⟨g, 0, none⟩) (n + m) c) rfl hf.ops.h81 (by decide) (run_mv hf.ops.h81 _) (fun a htm => ?_)
   refine htm.step (v := .slice (some ⟨g, 0, none⟩) (n + m) c) rfl hf.ops.h82 (by decide) (run_asg hf.ops.h82 _) (fun a htm => ?_)
   refine wp_ret ?_
   show bodyPost P fn (fun x wq => x = .returned (.slice (some ⟨g, 0, none⟩) (n + m) c) ∧ wq = w2) .ret a w2
   refine ins_ret hf.res htm (v := .slice (some ⟨g, 0, none⟩) (n + m) c) rfl ?_
   exact ⟨rfl, rfl⟩
  exact key _ (tm3 _ _ _ 92)
end
end Dn
/-
  What slices.Insert does to a slice of its own. Conditions: none.
-/
set_option linter.unusedSimpArgs false
set_option linter.unusedVariables false
namespace Dn
open Go
section
variable {key : Nat → Nat} {φ : Ph} {size : Nat}
theorem ElemsRep.take {xs : List MV} : ∀ {cs : List Value} (i : Nat), ElemsRep key φ size cs xs → ElemsRep key φ size (cs.take (i * size)) (xs.take i) := by
  induction xs with
  | nil => intro cs i h; cases h; simp [ElemsRep]
  | cons x xs ih =>
    intro cs i h
    obtain ⟨v, q, rfl, h1, h2, h3⟩ := h
    cases i with
    | zero => simp [ElemsRep]
    | succ i =>
      refine ⟨v, q.take (i * size), ?_, h1, h2, ih i h3⟩
      rw [Nat.add_mul, Nat.one_mul, Nat.add_comm, List.take_append, h1]
      congr 1
      · exact List.take_of_length_le (by omega)
      · congr 1; omega
theorem ElemsRep.drop {xs : List MV} : ∀ {cs : List Value} (i : Nat), ElemsRep key φ size cs xs → ElemsRep key φ size (cs.drop (i * size)) (xs.drop i) := by
  induction xs with
  | nil => intro cs i h; cases h; simp [ElemsRep]
  | cons x xs ih =>
    intro cs i h
    cases i with
    | zero => simpa using h
    | succ i =>
      obtain ⟨v, q, rfl, h1, h2, h3⟩ := h
      have := ih i h3
      rw [Nat.add_mul, Nat.one_mul, Nat.add_comm, List.drop_append, h1, List.drop_of_length_le (by omega), List.nil_append, Nat.add_sub_cancel_left]
      simpa using this
end
section
variable {P : Program} {c : Ctx} {f : Nat} {W W' : World} {φ : Ph} {Z : Nat → Prop} {v0 v' : Value}
theorem fin_own {ty : Nat} {E : TI} {n : Nat} {cells : List Value} {rs : List MV} (hz : ∀ b, W.heap.size ≤ b → Z b) (himm : Imm φ W) (hE : c.ti ty = some E) (hEc : E.comps = []) (hfty : c.fty (c.key f) = ty)
    (hold : ∀ b, b < W.heap.size → some b ≠ v0.ownBlock → W'.heap[b]? = W.heap[b]?) (hsz : W.heap.size ≤ W'.heap.size) (hrest : Rest W W')
    (hv0 : ∀ b, v0.ownBlock = some b → Z b ∧ ∀ off, φ b off = none) (hown : W'.ownsRow 0 ty E.size v' n cells) (hn : rs.length = n) (hels : ElemsRep c.key φ E.size cells rs)
    (hplace : ∀ b, v'.ownBlock = some b → v0.ownBlock = some b ∨ W.heap.size ≤ b) : ∃ φ', Trans Z φ W φ' W' ∧ Imm φ' W' ∧ ResRep c Z φ' W' (c.key f) v' (.fresh rs) := by
  refine ⟨φ, ⟨.refl _, ?_, fun _ _ _ => rfl, hsz, hrest⟩, ?_, ?_⟩
  · intro b hb hlt
    exact hold b hlt (fun he => hb (hv0 b he.symm).1)
  · intro b off u hbo
    have h1 := himm b off u hbo
    have hlt := World.block_lt_of_cell? W _ h1
    rw [World.cell?_of_block (hold b hlt (fun he => by rw [(hv0 b he.symm).2 off] at hbo; cases hbo))]
    exact h1
  · show FamOK c (Zone.plain Z) (env0 c.key φ) W' v' ⟨c.fty (c.key f), false, rs⟩
    rw [hfty]
    refine ⟨E, cells, hE, hEc, by rw [hn]; exact hown, hels, fun blk hb => ?_⟩
    rcases hplace blk hb with h | h
    · exact ⟨(hv0 blk h).1, fun off u hu => (by have hu : φ blk off = some u := hu; rw [(hv0 blk h).2 off] at hu; cases hu), fun hc => hc.elim⟩
    · refine ⟨hz blk h, fun off u hu => ?_, fun hc => hc.elim⟩
      have := World.block_lt_of_cell? W _ (himm _ _ _ hu)
      exact absurd this (by show ¬ blk < W.heap.size; omega)

/-- the row that is left -/
theorem row_mid {A cur : List Value} {cells news : List Value} {p q r : Nat} (hA : A.length = cur.length) (hp : p + news.length = q) (hc : cells.length = r) (hpr : p ≤ r) (hfit : r + news.length ≤ cur.length)
    (h1 : A.take p = cells.take p) (h2 : (A.drop q).take (r - p) = cells.drop p) : (A.take p ++ news ++ A.drop q).take (r + news.length) = cells.take p ++ news ++ cells.drop p := by
  have hl : (A.take p).length = p := by rw [List.length_take]; omega
  rw [List.take_append, List.length_append, hl, hp, List.take_of_length_le (by rw [List.length_append, hl]; omega), h1]
  congr 1
  rw [show r + news.length - q = r - p by omega]
  exact h2

theorem insert_ok {t ti tb el fo : Nat} {fn : Func} {r : Nat → Nat} {o : Nat → Oper} {tail : Code} {I E : TI} {xs ys : List MV} {i : Nat} (hf : InsFn P f t ti tb el fo fn r o tail) (hT : TIok P c.ti) (hI : c.tv t = some I) (hL : I.isL = true) (hE : c.tv I.elem = some E) (hb1 : 1 ≤ E.bytes)
    (hel : el = I.elem) (hti : P.underlying ti = some (.int .i64)) (hfty : c.fty (c.key f) = I.elem) (hg : c.gives (c.key f) = true)
    (hov : ∀ args w, (callFunc fo args).run P w = ((Extern.SlicesOverlaps.overlaps #[t, t] #[tb] args).run P w).andThen fun v w' => .ok (.value v) w')
    (hi : i ≤ xs.length) (hys : ys ≠ []) (hlim : (xs.length + ys.length) * E.bytes ≤ 2 ^ 46) : Sound1 P c f [.fresh xs, .i .i64 i, .fresh ys] (.fresh (xs.take i ++ ys ++ xs.drop i)) := by
  subst hel
  obtain ⟨hIt, hIc⟩ := tv_some hI
  obtain ⟨hEi, hEc⟩ := tv_some hE
  obtain ⟨hu, E2, hE2, _, hpos⟩ := TI.isL_of (hT t I hIt) hL
  rw [hEi] at hE2
  cases hE2
  obtain ⟨ie, z, hie, hse, hby, hz0, hzs⟩ := zero_size (hT _ E hEi) hEc
  intro φ W Z vs hz hargs himm
  simp only [ArgsIn, hg, if_true] at hargs
  obtain ⟨v0, v1, v2, xs', m1, ys', rfl, hms, F0, A1, F2, hne⟩ := hargs.resolve_right (by
    rintro (⟨_, _, _, _, _, m2, _, h1, h2, _⟩ | ⟨pos, _, _, _, _, _, _, h1, _⟩)
    · simp only [List.cons.injEq, and_true] at h1
      rw [← h1.2.2] at h2; simp [MV.one] at h2
    · rcases pos with _ | _ | _ | pos <;> simp at h1)
  simp only [List.cons.injEq, MV.fresh.injEq, and_true] at hms
  obtain ⟨rfl, rfl, rfl⟩ := hms
  have hv1 : v1 = .int .i64 (i : Int) := by
    obtain ⟨_, h⟩ := A1
    generalize hvs : [v1] = l at h
    cases h; simpa using hvs
  subst hv1
  rw [hfty] at F0 F2
  obtain ⟨I0, cells, hI0, _, hown0, hels0, hblk0⟩ := F0
  have hI0 : c.ti I.elem = some I0 := hI0
  rw [hEi] at hI0
  cases hI0
  obtain ⟨I2, news, hI2, _, hown2, hels2, hblk2⟩ := F2
  have hI2 : c.ti I.elem = some I2 := hI2
  rw [hEi] at hI2
  cases hI2
  have hown0 : W.ownsRow 0 I.elem E.size v0 xs.length cells := hown0
  have hown2 : W.ownsRow 0 I.elem E.size v2 ys.length news := hown2
  have hels0 : ElemsRep c.key φ E.size cells xs := hels0
  have hels2 : ElemsRep c.key φ E.size news ys := hels2
  have hv0 : ∀ b, v0.ownBlock = some b → Z b ∧ ∀ off, φ b off = none := by
    intro b hb
    refine ⟨(hblk0 b hb).1, fun off => ?_⟩
    cases h : φ b off with
    | none => rfl
    | some u => have := ((hblk0 b hb).2.1 off u h).1; cases this
  have hm : 0 < ys.length := List.length_pos_iff.2 hys
  have hnl : news.length = ys.length * E.size := hels2.length
  have hcl : cells.length = xs.length * E.size := hels0.length
  have hlen : xs.length + ys.length ≤ 2 ^ 46 := Nat.le_trans (Nat.le_mul_of_pos_right _ hb1) hlim
  obtain ⟨g2, c2, cur2, rfl, hg2, hmc2, hc2, hs2, htk2⟩ : ∃ g2 c2 cur2, v2 = .slice (some ⟨g2, 0, none⟩) ys.length c2 ∧ W.heap[g2]? = some (.cells cur2 I.elem (0, 0)) ∧ ys.length ≤ c2 ∧ c2 ≤ maxLen ∧ cur2.size = c2 * E.size ∧ cur2.toList.take (ys.length * E.size) = news := by
    rcases hown2.2 with ⟨_, h0⟩ | ⟨g2, c2, cur2, h1, _, h3, h4, h5, h6, h7⟩
    · omega
    · exact ⟨g2, c2, cur2, h1, h3, h4, h5, h6, h7⟩
  have hg2l := lt_of_heap hg2
  have hsrc2 : ∀ {w : World}, (w.heap[g2]? = W.heap[g2]?) → ∀ (j : Nat) (u : Value), news[j]? = some u → w.cell? ((⟨g2, 0, none⟩ : Addr).add j) = some u := by
    intro w hw j u hj
    have := hown2.cells (g := g2) rfl j u hj
    rw [Addr.add_mid] at this ⊢
    rw [World.cell?_of_block hw]; exact this
  have hcells : ∀ g, v0.ownBlock = some g → ∀ {w : World}, (w.heap[g]? = W.heap[g]?) → ∀ (j : Nat) (u : Value), cells[j]? = some u → w.cell? ((⟨g, 0, none⟩ : Addr).add j) = some u := by
    intro g hg w hw j u hj
    have := hown0.cells (g := g) hg j u hj
    rw [Addr.add_mid] at this ⊢
    rw [World.cell?_of_block hw]; exact this
  have hrun : (callFunc f [v0, .int .i64 (i : Int), .slice (some ⟨g2, 0, none⟩) ys.length c2].toArray).run P W = .ok (.enter f #[v0, .int .i64 (i : Int), .slice (some ⟨g2, 0, none⟩) ys.length c2]) W := by
    have hn2 : ¬ fn.name = "runtime.NumGoroutine" := by simpa using hf.name
    simp [callFunc, hf.pos, hn2, hf.body]
  unfold CallOK
  rw [hrun]
  have hrl : (xs.take i ++ ys ++ xs.drop i).length = xs.length + ys.length := by simp; omega
  have hrels : ElemsRep c.key φ E.size (cells.take (i * E.size) ++ news ++ cells.drop (i * E.size)) (xs.take i ++ ys ++ xs.drop i) := ((hels0.take i).append hels2).append (hels0.drop i)
  by_cases hin : i = xs.length
  · -- at the end
    have hsrc : Src (env0 c.key φ) W E.size (.slice (some ⟨g2, 0, none⟩) ys.length c2) ys news := ⟨hels2, _, _, rfl, by simp, fun x hx j u hj => by cases hx; exact hsrc2 rfl j u hj⟩
    have hres : cells.take (i * E.size) ++ news ++ cells.drop (i * E.size) = cells ++ news := by
      rw [hin, ← hcl, List.take_length, List.drop_length, List.append_nil]
    rw [hres] at hrels
    have fin : ∀ v' W', Appd W W' I.elem E.size v0 v' xs.length ys.length cells news → ∃ φ', Trans Z φ W φ' W' ∧ Imm φ' W' ∧ ResRep c Z φ' W' (c.key f) v' (.fresh (xs.take i ++ ys ++ xs.drop i)) := by
      intro v' W' hap
      refine fin_own (v0 := v0) hz himm hEi hEc hfty hap.old hap.size hap.rest hv0 hap.own hrl hrels ?_
      intro b hb
      rcases hap.place with h | h
      · left; rw [← h]; exact hb
      · right; rw [h] at hb; cases hb; exact Nat.le_refl _
    obtain ⟨v', W', hr, hap⟩ := append_run (P := P) (c := c) (ty := 0) (e := env0 c.key φ) hu hEi hEc hpos hT hb1 hown0 hsrc hlim
    have hr' : ∀ ty, (Builtin.append_ #[t, t] ty #[v0, .slice (some ⟨g2, 0, none⟩) ys.length c2]).run P W = .ok v' W' := fun ty => hr
    have hv0c : ∃ ad c0, v0 = .slice ad xs.length c0 ∧ xs.length ≤ c0 ∧ c0 ≤ maxLen := by
      rcases hown0.2 with ⟨h1, h0⟩ | ⟨g, c0, cur, h1, _, h3, h4, h5, _⟩
      · exact ⟨none, 0, by rw [h1, h0], by omega, by omega⟩
      · exact ⟨_, c0, h1, h4, h5⟩
    obtain ⟨ad, c0, rfl, hnc, hcm⟩ := hv0c
    refine (ins_end hf hie hse hm hnc (by unfold maxLen at hcm; omega) (by omega) hin hr').mono ?_
    rintro x w'' ⟨rfl, rfl⟩
    exact ⟨_, rfl, fin _ _ hap⟩
  · have hin : i < xs.length := by omega
    obtain ⟨g, c0, cur, rfl, hgc, hnc, hcm, hcs, htk⟩ : ∃ g c0 cur, v0 = .slice (some ⟨g, 0, none⟩) xs.length c0 ∧ W.heap[g]? = some (.cells cur I.elem (0, 0)) ∧ xs.length ≤ c0 ∧ c0 ≤ maxLen ∧ cur.size = c0 * E.size ∧ cur.toList.take (xs.length * E.size) = cells := by
      rcases hown0.2 with ⟨_, h0⟩ | ⟨g, c0, cur, h1, _, h3, h4, h5, h6, h7⟩
      · omega
      · exact ⟨g, c0, cur, h1, h3, h4, h5, h6, h7⟩
    have hgl := lt_of_heap hgc
    have hgg : g ≠ g2 := fun h => hne g rfl (by rw [h]; rfl)
    have hi1 : i * E.size ≤ xs.length * E.size := Nat.mul_le_mul_right _ hi
    have him : (i + ys.length) * E.size = i * E.size + news.length := by rw [Nat.add_mul, hnl]
    have hnm : (xs.length + ys.length) * E.size = xs.length * E.size + news.length := by rw [Nat.add_mul, hnl]
    have hdl : (cells.drop (i * E.size)).length = (xs.length - i) * E.size := by rw [List.length_drop, hcl, Nat.sub_mul]
    have hdl2 : (xs.length - i) * E.size = xs.length * E.size - i * E.size := Nat.sub_mul _ _ _
    have hsrcD : ∀ {w : World}, (w.heap[g]? = W.heap[g]?) → ∀ (j : Nat) (u : Value), (cells.drop (i * E.size))[j]? = some u → w.cell? ((⟨g, i * E.size, none⟩ : Addr).add j) = some u := by
      intro w hw j u hj
      rw [List.getElem?_drop] at hj
      have := hcells g rfl hw _ u hj
      rw [Addr.add_mid] at this ⊢
      rwa [Nat.zero_add] at this
    have ho1 : ∀ u ∈ cells.drop (i * E.size), u.oneCell' = true := fun u hu => hels0.cells1 u (List.mem_of_mem_drop hu)
    have hdrew : Rest W { W with drawn := W.drawn + 1 } := ⟨rfl, rfl, rfl, fun _ => rfl⟩
    by_cases hroom : c0 < xs.length + ys.length
    · have hk : i + (xs.length + ys.length - i) = xs.length + ys.length := by omega
      obtain ⟨G, hG⟩ : ∃ G, G = grownCap W (xs.length + ys.length) c0 I.elem := ⟨_, rfl⟩
      have hGn : xs.length + ys.length ≤ G := by rw [hG]; exact grownCap_ge W _ _ _
      have hGm : G ≤ maxLen := by rw [hG]; exact grownCap_le_maxLen W _ _ _ (by unfold maxLen; omega)
      obtain ⟨ROW, hROW⟩ : ∃ ROW : Array Value, ROW = (cells.take (i * E.size)).toArray ++ Builtin.zeroCells z.cells (xs.length + ys.length - i) ++ Builtin.zeroCells z.cells (G - (xs.length + ys.length)) := ⟨_, rfl⟩
      have hRl : ROW.size = G * E.size := by
        rw [hROW]
        simp only [Array.size_append, List.size_toArray, List.length_take, Builtin.zeroCells, Array.size_map, Array.size_range, hzs]
        rw [Nat.min_eq_left (by rw [hcl]; exact hi1), ← Nat.add_mul, ← Nat.add_mul]
        congr 1; omega
      have hRt : ROW.toList.take (i * E.size) = cells.take (i * E.size) := by
        rw [hROW]
        simp only [Array.toList_append, List.append_assoc]
        have hl : (cells.take (i * E.size)).length = i * E.size := by rw [List.length_take, hcl]; exact Nat.min_eq_left hi1
        rw [List.take_append_of_le_length (by omega), List.take_of_length_le (by omega)]
      have hA : ∀ ty, (Builtin.append_ #[t, ti] ty #[.slice (some ⟨g, 0, none⟩) i c0, .int .i64 ((xs.length + ys.length - i : Nat) : Int)]).run P W = .ok (.slice (some ⟨W.heap.size, 0, none⟩) (xs.length + ys.length) G) (W.drew.alloc (.cells ROW I.elem)) := fun ty => by
        have hold : (Builtin.firstCells ie.size i (.slice (some ⟨g, 0, none⟩) i c0)).run P W.drew = .ok (cells.take (i * E.size)).toArray W.drew := by
          refine run_firstCells_some W.drew ie.size i ⟨g, 0, none⟩ i c0 _ (by rw [hse, List.length_take, hcl]; exact Nat.min_eq_left hi1) (fun j v hj => ?_)
          rw [List.getElem?_take] at hj
          split at hj
          · exact hcells g rfl rfl j v hj
          · cases hj
        have h := Lib.run_append_grow_zeros W t ti ty I.elem ie z .i64 .i64 hu hti hie hz0 (some ⟨g, 0, none⟩) i c0 (cells.take (i * E.size)) hold (xs.length + ys.length - i) (by omega) (by rw [hse]; exact hpos) (by omega) (by omega)
          (by rw [hby]; exact Nat.le_trans (Nat.mul_le_mul_right _ (by omega : xs.length + ys.length - i ≤ xs.length + ys.length)) (Nat.le_trans hlim (by omega))) (by rw [hby, hk]; exact growslice_fits hroom (Nat.le_trans hlim (by omega)))
        rw [hk, ← hG, ← hROW] at h
        exact h
      have hg9 : (W.drew.alloc (.cells ROW I.elem)).heap[W.heap.size]? = some (.cells ROW I.elem (0, 0)) := heap_alloc_new W.drew _
      have hal : ∀ b, b < W.heap.size → (W.drew.alloc (.cells ROW I.elem)).heap[b]? = W.heap[b]? := fun b hb => heap_alloc_old W.drew _ b hb
      have hnG : (xs.length + ys.length) * E.size ≤ ROW.size := by rw [hRl]; exact Nat.mul_le_mul_right _ hGn
      obtain ⟨RA, hRA⟩ : ∃ RA : List Value, RA = ROW.toList.take (i * E.size) ++ news ++ ROW.toList.drop (i * E.size + news.length) := ⟨_, rfl⟩
      have hRAl : RA.length = ROW.size := by
        rw [hRA]
        simp only [List.length_append, List.length_take, List.length_drop, Array.length_toList]
        omega
      have hB : ∀ ty, (Builtin.copy_ #[t, t] ty #[.slice (some ⟨W.heap.size, i * E.size, none⟩) (xs.length + ys.length - i) (G - i), .slice (some ⟨g2, 0, none⟩) ys.length c2]).run P (W.drew.alloc (.cells ROW I.elem)) =
          .ok (goInt ((ys.length : Nat) : Int)) (World.setRow (W.drew.alloc (.cells ROW I.elem)) W.heap.size RA.toArray) := fun ty => by
        rw [hRA]
        exact run_copy_wide (size := E.size) hu hie hse hg9 (by simp only [Nat.min_def]; split <;> omega) hnl (hsrc2 (hal g2 hg2l)) (by omega) hels2.cells1
      have hg9B := setRow_heap (W.drew.alloc (.cells ROW I.elem)) W.heap.size ROW RA.toArray I.elem (0, 0) hg9
      obtain ⟨W2, hW2⟩ : ∃ W2, W2 = World.setRow (W.drew.alloc (.cells ROW I.elem)) W.heap.size RA.toArray := ⟨_, rfl⟩
      have hoth : ∀ b, b < W.heap.size → W2.heap[b]? = W.heap[b]? := fun b hb => by rw [hW2, setRow_other _ _ _ _ (by omega)]; exact hal b hb
      have hrest2 : Rest W W2 := by
        rw [hW2]
        exact (show Rest W W.drew from ⟨rfl, rfl, rfl, fun _ => rfl⟩).trans ((Rest.alloc W.drew ROW I.elem).trans (Rest.setRow _ _ _))
      have hsz2 : W2.heap.size = W.heap.size + 1 := by rw [hW2, setRow_size]; exact Array.size_push _
      rw [← hW2] at hB hg9B
      have hC := fun ty => run_copy_wide (P := P) (dT := t) (sT := t) (ty := ty) (size := E.size) (dLen := xs.length + ys.length - (i + ys.length)) (dCap := G - (i + ys.length)) (sLen := xs.length - i) (sCap := c0 - i) (k := xs.length - i) (o := (i + ys.length) * E.size) (a := ⟨g, i * E.size, none⟩) (w := { W2 with drawn := W2.drawn + 1 }) hu hie hse hg9B (by simp only [Nat.min_def]; split <;> omega) hdl
        (hsrcD (hoth g hgl)) (by simp only [List.size_toArray]; rw [hRAl, him, hdl]; omega) ho1
      refine (ins_grow hf hie hse hm hnc (by unfold maxLen at hcm; omega) (by omega) hin hroom hGn hA hB hC).mono ?_
      rintro x w'' ⟨rfl, rfl⟩
      refine ⟨_, rfl, ?_⟩
      refine fin_own (v0 := .slice (some ⟨g, 0, none⟩) xs.length c0) (n := xs.length + ys.length) (cells := cells.take (i * E.size) ++ news ++ cells.drop (i * E.size)) hz himm hEi hEc hfty ?_ ?_ ?_ hv0 ?_ hrl hrels (fun b hb => .inr (by cases hb; exact Nat.le_refl _))
      · intro b hb hne
        rw [setRow_other _ _ _ _ (by omega)]
        exact hoth b hb
      · rw [setRow_size]; show W.heap.size ≤ W2.heap.size; omega
      · exact hrest2.trans ((show Rest W2 { W2 with drawn := W2.drawn + 1 } from ⟨rfl, rfl, rfl, fun _ => rfl⟩).trans (Rest.setRow _ _ _))
      · refine ⟨by rw [hrels.length, hrl], .inr ⟨W.heap.size, G, _, rfl, Nat.zero_le _, setRow_heap { W2 with drawn := W2.drawn + 1 } W.heap.size RA.toArray _ I.elem (0, 0) hg9B, hGn, hGm, ?_, ?_⟩⟩
        · simp only [List.size_toArray, List.length_append, List.length_take, List.length_drop]
          rw [hRAl, ← hRl]
          omega
        · have hRAt : RA.take ((i + ys.length) * E.size) = cells.take (i * E.size) ++ news := by
            have hl : (ROW.toList.take (i * E.size) ++ news).length = (i + ys.length) * E.size := by rw [List.length_append, List.length_take, Array.length_toList, him]; omega
            rw [hRA, List.take_append_of_le_length (by omega), List.take_of_length_le (by omega), hRt]
          rw [hRAt]
          have hl2 : (cells.take (i * E.size) ++ news ++ cells.drop (i * E.size)).length = (xs.length + ys.length) * E.size := by rw [hrels.length, hrl]
          rw [← hl2]
          exact List.take_left
    · have hroom : xs.length + ys.length ≤ c0 := by omega
      have hcz : cur.toList.length = cur.size := Array.length_toList
      have hfit : (xs.length + ys.length) * E.size ≤ cur.size := by rw [hcs]; exact Nat.mul_le_mul_right _ hroom
      have hO : (callFunc fo #[.slice (some ⟨g2, 0, none⟩) ys.length c2, .slice (some ⟨g, (i + ys.length) * E.size, none⟩) (xs.length + ys.length - (i + ys.length)) (c0 - (i + ys.length))]).run P W = .ok (.value (.bool false)) W := by
        rw [hov, Lib.run_overlaps_apart W t tb I.elem hu E.size (fun w => by simp [Go.sizeOf, typeInfo, hie, hse]) ⟨g2, 0, none⟩ ⟨g, (i + ys.length) * E.size, none⟩ _ _ _ _ (Ne.symm hgg) I.elem I.elem cur2.size cur.size (by simp [World.shape?, hg2]) (by simp [World.shape?, hgc])
          (by rw [hcs]; exact Nat.ne_of_gt (Nat.mul_pos (by omega) hpos)) (by simp [World.frozen?, hg2]) (by simp [World.frozen?, hg2])]
        rfl
      let R1 : List Value := cur.toList.take ((i + ys.length) * E.size) ++ cells.drop (i * E.size) ++ cur.toList.drop ((i + ys.length) * E.size + (cells.drop (i * E.size)).length)
      have hR1 : R1.length = cur.size := by
        simp only [R1, List.length_append, List.length_take, List.length_drop, Array.length_toList]
        rw [hdl] at *
        omega
      have hB : ∀ ty, (Builtin.copy_ #[t, t] ty #[.slice (some ⟨g, (i + ys.length) * E.size, none⟩) (xs.length + ys.length - (i + ys.length)) (c0 - (i + ys.length)), .slice (some ⟨g, i * E.size, none⟩) (xs.length + ys.length - i) (c0 - i)]).run P { W with drawn := W.drawn + 1 } =
          .ok (goInt ((xs.length - i : Nat) : Int)) (World.setRow { W with drawn := W.drawn + 1 } g R1.toArray) := fun ty =>
        run_copy_wide (size := E.size) hu hie hse (w := { W with drawn := W.drawn + 1 }) hgc (by simp only [Nat.min_def]; split <;> omega) hdl (hsrcD rfl) (by rw [him, hdl]; omega) ho1
      have hgc1 : (World.setRow { W with drawn := W.drawn + 1 } g R1.toArray).heap[g]? = some (.cells R1.toArray I.elem (0, 0)) := setRow_heap { W with drawn := W.drawn + 1 } g cur R1.toArray I.elem (0, 0) hgc
      have hoth : ∀ b, b ≠ g → (World.setRow { W with drawn := W.drawn + 1 } g R1.toArray).heap[b]? = W.heap[b]? := fun b hb => setRow_other { W with drawn := W.drawn + 1 } g b R1.toArray hb
      have hC := fun ty => run_copy_wide (P := P) (dT := t) (sT := t) (ty := ty) (size := E.size) (dLen := xs.length + ys.length - i) (dCap := c0 - i) (sLen := ys.length) (sCap := c2) (k := ys.length) (o := i * E.size) (a := ⟨g2, 0, none⟩) hu hie hse hgc1 (by simp only [Nat.min_def]; split <;> omega) hnl
        (hsrc2 (hoth g2 (Ne.symm hgg))) (by simp only [List.size_toArray]; rw [hR1]; omega) hels2.cells1
      refine (ins_room hf hie hse hm hnc (by unfold maxLen at hcm; omega) (by omega) hin hroom hO hB hC).mono ?_
      rintro x w'' ⟨rfl, rfl⟩
      refine ⟨_, rfl, ?_⟩
      rw [setRow_setRow]
      have hrest : Rest W (World.setRow { W with drawn := W.drawn + 1 } g (R1.toArray.toList.take (i * E.size) ++ news ++ R1.toArray.toList.drop (i * E.size + news.length)).toArray) := hdrew.trans (Rest.setRow _ _ _)
      refine fin_own (v0 := .slice (some ⟨g, 0, none⟩) xs.length c0) (n := xs.length + ys.length) (cells := cells.take (i * E.size) ++ news ++ cells.drop (i * E.size)) hz himm hEi hEc hfty ?_ (by simp) hrest hv0 ?_ hrl hrels (fun b hb => .inl hb)
      · intro b hb hne
        refine setRow_other { W with drawn := W.drawn + 1 } g b _ (fun h => hne ?_)
        rw [h]; rfl
      · refine ⟨by rw [hrels.length, hrl], .inr ⟨g, c0, _, rfl, Nat.zero_le _, setRow_heap { W with drawn := W.drawn + 1 } g cur _ I.elem (0, 0) hgc, hroom, hcm, ?_, ?_⟩⟩
        · simp only [List.size_toArray, List.length_append, List.length_take, List.length_drop]
          rw [hR1, ← hcs]
          omega
        · rw [hnm]
          refine row_mid (cur := cur.toList) (r := xs.length * E.size) (by simpa using hR1) rfl hcl hi1 (by simp only [Array.length_toList]; omega) ?_ ?_
          · show R1.take (i * E.size) = _
            rw [← htk, List.take_take, Nat.min_eq_left hi1]
            simp only [R1]
            rw [List.append_assoc, List.take_append_of_le_length (by rw [List.length_take, hcz]; omega), List.take_take, Nat.min_eq_left (by omega)]
          · show (R1.drop (i * E.size + news.length)).take _ = _
            simp only [R1]
            have hl : (cur.toList.take ((i + ys.length) * E.size)).length = i * E.size + news.length := by rw [List.length_take, hcz]; omega
            rw [List.append_assoc, ← hl, List.drop_left, List.take_append_of_le_length (by omega), List.take_of_length_le (by omega)]
end
end Dn
/-
  slices.Delete of the library, walked. Conditions: none.
-/
set_option linter.unusedSimpArgs false
set_option linter.unusedVariables false
namespace Dn
open Go
/-- an operation that yields nothing -/
structure IsOp0 (o : Oper) (op : Op) : Prop where
  dst : o.dst = none
  op : o.op = op
  guard : o.guard = none
section
variable {P : Program} {Q : Exit → Act → World → Prop} {ops : Array Oper} {o : Oper} {a : Act} {w w' : World} {n : Nat} {σ : Nat → Value}
theorem Tm.step0 {i : Nat} {op : Op} {rest : List Nat} {v : Value} (htm : Tm a n σ) (hi : ops[i]? = some o) (ho : IsOp0 o op) (hrun : (execOp (ev σ) o).run P w = .ok (.value v) w')
    (h : wpOps P ops Q rest a w') : wpOps P ops Q (i :: rest) a w := by
  refine wp_val hi ho.guard (v := v) (w' := w') (by rw [htm.eval]; exact hrun) ?_
  rw [ho.dst]; exact h
/-- in order, but for the last two, each of which stands alone when its turn comes -/
def inOrd2 (ops : Array Oper) : Nat → Nat → Array Bool → Bool
  | 0, i, listed => (Region.ready .any ops listed == [i]) && (Region.ready .any ops (listed.setIfInBounds i true) == [i + 1]) && (Region.ready .any ops ((listed.setIfInBounds i true).setIfInBounds (i + 1) true)).isEmpty
  | k + 1, i, listed => Region.free .any ops listed i && (Region.ready .any ops listed).contains i && inOrd2 ops k (i + 1) (listed.setIfInBounds i true)
def drawB2 (ops : Array Oper) : Bool := Region.noSelect ops && Nat.blt 1 ops.size && inOrd2 ops (ops.size - 2) 0 (Array.replicate ops.size false)
structure InOrd2 (ops : Array Oper) (k i : Nat) (listed : Array Bool) : Prop where
  sel : Region.noSelect ops = true
  ord : inOrd2 ops k i listed = true
theorem Tm.draw2 {N : Act → World → Prop} {i d : Nat} {op : Op} {k : Nat} {listed : Array Bool} {v : Value} (htm : Tm a n σ) (hi : ops[i]? = some o) (ho : IsOp o d op) (hd : d < n) (hb : InOrd2 ops (k + 1) i listed) (hrun : ∀ w, (execOp (ev σ) o).run P w = .ok (.value v) w)
    (h : ∀ a', Tm a' n (upd σ d v) → InOrd2 ops k (i + 1) (listed.setIfInBounds i true) → wpAny P .any ops (Only N) (k + 2) (listed.setIfInBounds i true) a' w) : wpAny P .any ops (Only N) (k + 3) listed a w := by
  obtain ⟨hs, hb⟩ := hb
  simp only [inOrd2, Bool.and_eq_true] at hb
  obtain ⟨⟨h1, h2⟩, h3⟩ := hb
  refine wpAny_take hi hs h1 h2 (fun c a w hq => hq.elim) (v := v) (.inl ⟨by simp [Region.wanted, ho.guard], fun w => by rw [htm.eval]; exact hrun w⟩) ?_
  rw [ho.dst]
  exact h _ (htm.put hd v) ⟨hs, h3⟩
theorem Tm.last2 {N : Act → World → Prop} {i d d2 : Nat} {op op2 : Op} {o2 : Oper} {listed : Array Bool} {v v2 : Value} (htm : Tm a n σ) (hi : ops[i]? = some o) (ho : IsOp o d op) (hd : d < n) (hi2 : ops[i + 1]? = some o2) (ho2 : IsOp o2 d2 op2) (hd2 : d2 < n) (hb : InOrd2 ops 0 i listed)
    (hrun : (execOp (ev σ) o).run P w = .ok (.value v) w') (hrun2 : (execOp (ev (upd σ d v)) o2).run P w' = .ok (.value v2) w')
    (h : ∀ a', Tm a' n (upd (upd σ d v) d2 v2) → N a' w') : wpAny P .any ops (Only N) 2 listed a w := by
  obtain ⟨hs, hb⟩ := hb
  simp only [inOrd2, Bool.and_eq_true, List.isEmpty_iff, beq_iff_eq] at hb
  obtain ⟨⟨h1, h2⟩, h3⟩ := hb
  refine wpAny_all h1 (by simp) ?_
  intro j hj
  simp only [List.mem_singleton] at hj
  subst hj
  unfold wpOp
  simp only [hi, Region.wanted, ho.guard, if_true]
  left
  unfold Oper.wp
  rw [htm.eval, hrun, Oper.upon_value, ho.dst]
  have htm2 := htm.put hd v
  refine wpAny_all h2 (by simp) ?_
  intro q hq
  simp only [List.mem_singleton] at hq
  subst hq
  unfold wpOp
  simp only [hi2, Region.wanted, ho2.guard, if_true]
  left
  unfold Oper.wp
  rw [htm2.eval, hrun2, Oper.upon_value, ho2.dst]
  exact wpAny_done h3 (h _ (htm2.put hd2 v2)) 0
theorem wp_draw2 {id k : Nat} (hm : P.follows .mixedOrders = true) (hb : drawB2 ops = true) (hk : ops.size = k + 2) (h : InOrd2 ops k 0 (Array.replicate (k + 2) false) → wpAny P .any ops (Only fun a w => Q .normal a w) (k + 2) (Array.replicate (k + 2) false) a { w with drawn := w.drawn + 1 }) :
    (Code.region id ops true).wp P Q a w := by
  simp only [drawB2, Bool.and_eq_true] at hb
  rw [hk] at hb
  refine Code.wp_mono ?_ (wp_region_any (Q := Only fun a w => Q .normal a w) hm (by rw [hk]; exact h ⟨hb.1.1, hb.2⟩))
  intro x a' w' hx
  cases x <;> first | exact hx | exact hx.elim
/-- a part of a slice, with a bound on its room -/
theorem run_three {d : Nat} {t el : TypeId} {x y z m3 : Operand} {e : Operand → Value} {ad : Option Addr} {m c l h k : Nat} {i : TypeInfo} (ho : IsOp o d (.slice t x (some y) (some z) (some m3))) (hu : P.underlying t = some (.slice el)) (hi : P.info? el = some i)
    (hx : e x = .slice ad m c) (hy : e y = .int .i64 l) (hz : e z = .int .i64 h) (hm : e m3 = .int .i64 k) (h1 : l ≤ h) (h2 : h ≤ k) (h3 : k ≤ c) (w : World) : (execOp e o).run P w = .ok (.value (.slice (if k = l then ad else ad.map (·.add (l * i.size))) (h - l) (k - l))) w := by
  simp [execOp, ho.op, Instr.sliceAt, Instr.slice, run_underlying hu, hx, hy, hz, hm, Go.sizeOf, typeInfo, hi, Instr.sliceBounds, Instr.sliceBound, asIntOf, h1, h2, h3]
/-- .. between two indexes -/
theorem run_between {d : Nat} {t el : TypeId} {x y z : Operand} {e : Operand → Value} {ad : Option Addr} {m c l h size : Nat} {i : TypeInfo} (ho : IsOp o d (.slice t x (some y) (some z) none)) (hu : P.underlying t = some (.slice el)) (hi : P.info? el = some i) (hs : i.size = size)
    (hx : e x = .slice ad m c) (hy : e y = .int .i64 l) (hz : e z = .int .i64 h) (h1 : l ≤ h) (h2 : h ≤ c) (w : World) : (execOp e o).run P w = .ok (.value (.slice (if c = l then ad else ad.map (·.add (l * size))) (h - l) (c - l))) w := by
  simp [execOp, ho.op, Instr.sliceAt, Instr.slice, run_underlying hu, hx, hy, hz, Go.sizeOf, typeInfo, hi, hs, Instr.sliceBounds, Instr.sliceBound, asIntOf, h1, h2]
theorem run_clr {x : Operand} {t1 : TypeId} {e : Operand → Value} {v1 v : Value} (ho : IsOp0 o (.call { callee := .builtin .clear, args := #[x], argTypes := #[t1] })) (hx : e x = v1)
    (h : (Builtin.clear_ #[t1] o.type #[v1]).run P w = .ok v w') : (execOp e o).run P w = .ok (.value v) w' := by
  simp [execOp, ho.op, resolve, invoke, builtin, hx, h]
theorem run_clear_wide {t ty elem t2 : TypeId} {g off n c size : Nat} {z : Value} {cur : Array Value} {i : TypeInfo} (hu : P.underlying t = some (.slice elem)) (hi : P.info? elem = some i) (hz : i.zero = some z) (hzs : z.cells.size = size) (h1 : ∀ v ∈ z.cells.toList, v.oneCell' = true)
    (hg : w.heap[g]? = some (.cells cur t2 (0, 0))) (hn : 0 < n) (hfit : off + n * size ≤ cur.size) :
    ∃ zs : List Value, zs.length = n * size ∧ (Builtin.clear_ #[t] ty #[.slice (some ⟨g, off, none⟩) n c]).run P w = .ok (.tuple #[]) (w.setRow g (cur.toList.take off ++ zs ++ cur.toList.drop (off + zs.length)).toArray) := by
  refine ⟨(Builtin.zeroCells z.cells n).toList, ?_, ?_⟩
  · simp [Builtin.zeroCells, hzs]
  · have hl : (Builtin.zeroCells z.cells n).toList.length = n * size := by simp [Builtin.zeroCells, hzs]
    have hst := run_storeCells_at P g off t2 (Builtin.zeroCells z.cells n).toList 0 cur w hg (by rw [hl]; simpa using hfit) (by
      intro v hv
      simp only [Builtin.zeroCells, Array.toList_map, List.mem_map, Array.mem_toList_iff, Array.mem_range] at hv
      obtain ⟨j, hj, rfl⟩ := hv
      have hpos : 0 < z.cells.size := by
        rcases Nat.eq_zero_or_pos z.cells.size with h0 | h0
        · rw [h0] at hj; omega
        · exact h0
      have hlt : j % z.cells.size < z.cells.size := Nat.mod_lt _ hpos
      rw [getElem!_pos z.cells _ hlt]
      exact h1 _ (by simp))
    simp only [Nat.add_zero] at hst
    obtain ⟨m, rfl⟩ : ∃ m, n = m + 1 := ⟨n - 1, by omega⟩
    simp [Builtin.clear_, run_underlying hu, zeroValue, typeInfo, hi, hz, hst]
end
theorem setRow_at {w : World} {g : Nat} {cur : Array Value} {t : TypeId} {fr : Nat × Nat} (cs : Array Value) (hg : w.heap[g]? = some (.cells cur t fr)) : (w.setRow g cs).heap[g]? = some (.cells cs t fr) := by
  simp [World.setRow, Array.getElem?_modify, hg]
def delCode (r : Nat → Nat) (o : Nat → Oper) : Code :=
  .seq (.region (r 0) #[o 0] false) (.seq (.region (r 1) #[o 1, o 2, o 3, o 4, o 5, o 6] false) (.seq (.seq (.region (r 2) #[o 7, o 8, o 9] false) (.cond (.tmp 16) (.seq (.region (r 3) #[o 10, o 11] false) .ret) .skip)) (.seq (.region (r 4) #[o 12, o 13, o 14] false) (.seq (.region (r 5) #[o 15, o 16, o 17, o 18, o 19, o 20, o 21, o 22] true) (.seq (.region (r 6) #[o 23, o 24, o 25, o 26, o 27, o 28] false) (.seq (.region (r 7) #[o 29, o 30] false) .ret))))))
structure DelOps (t ti : Nat) (o : Nat → Oper) : Prop where
  h0 : IsOp (o 0) 6 (.assign (.const (.slice none 0 0)))
  h1 : IsOp (o 1) 8 (.move (.tmp 0))
  h2 : IsOp (o 2) 9 (.move (.tmp 1))
  h3 : IsOp (o 3) 10 (.move (.tmp 2))
  h4 : IsOp (o 4) 11 (.move (.tmp 0))
  h5 : IsOp (o 5) 12 (.call { callee := .builtin .len, args := #[.tmp 11], argTypes := #[t] })
  h6 : IsOp (o 6) 13 (.slice t (.tmp 8) (some (.tmp 9)) (some (.tmp 10)) (some (.tmp 12)))
  h7 : IsOp (o 7) 14 (.move (.tmp 1))
  h8 : IsOp (o 8) 15 (.move (.tmp 2))
  h9 : IsOp (o 9) 16 (.binOp .eql ti (.tmp 14) (.tmp 15) ti)
  h10 : IsOp (o 10) 17 (.move (.tmp 0))
  h11 : IsOp (o 11) 6 (.assign (.tmp 17))
  h12 : IsOp (o 12) 18 (.move (.tmp 0))
  h13 : IsOp (o 13) 19 (.call { callee := .builtin .len, args := #[.tmp 18], argTypes := #[t] })
  h14 : IsOp (o 14) 7 (.assign (.tmp 19))
  h15 : IsOp (o 15) 20 (.move (.tmp 0))
  h16 : IsOp (o 16) 21 (.move (.tmp 1))
  h17 : IsOp (o 17) 22 (.slice t (.tmp 20) none (some (.tmp 21)) none)
  h18 : IsOp (o 18) 23 (.move (.tmp 0))
  h19 : IsOp (o 19) 24 (.move (.tmp 2))
  h20 : IsOp (o 20) 25 (.slice t (.tmp 23) (some (.tmp 24)) none none)
  h21 : IsOp (o 21) 26 (.call { callee := .builtin .append, args := #[.tmp 22, .tmp 25], argTypes := #[t, t] })
  h22 : IsOp (o 22) 0 (.assign (.tmp 26))
  h23 : IsOp (o 23) 27 (.move (.tmp 0))
  h24 : IsOp (o 24) 28 (.move (.tmp 0))
  h25 : IsOp (o 25) 29 (.call { callee := .builtin .len, args := #[.tmp 28], argTypes := #[t] })
  h26 : IsOp (o 26) 30 (.move (.tmp 7))
  h27 : IsOp (o 27) 31 (.slice t (.tmp 27) (some (.tmp 29)) (some (.tmp 30)) none)
  h28 : IsOp0 (o 28) (.call { callee := .builtin .clear, args := #[.tmp 31], argTypes := #[t] })
  h29 : IsOp (o 29) 32 (.move (.tmp 0))
  h30 : IsOp (o 30) 6 (.assign (.tmp 32))
  d5 : drawB2 #[o 15, o 16, o 17, o 18, o 19, o 20, o 21, o 22] = true
structure DelFn (P : Program) (f t ti el : Nat) (fn : Func) (r : Nat → Nat) (o : Nat → Oper) : Prop where
  pos : P.funcs[f]? = some fn
  name : (fn.name == "runtime.NumGoroutine") = false
  tmps : fn.ntmps = 33
  res : fn.results = #[.tmp 6]
  body : fn.body = some (delCode r o)
  ops : DelOps t ti o
  mix : P.follows .mixedOrders = true
  und : P.underlying t = some (.slice el)
section
variable {P : Program} {f t ti el : Nat} {fn : Func} {r : Nat → Nat} {o : Nat → Oper} {ie : TypeInfo} {size n c i j g : Nat} {ad : Option Addr} {w : World}
theorem del_ret {a : Act} {w : World} {σ : Nat → Value} {R : Ending → World → Prop} {v : Value} (hr : fn.results = #[.tmp 6]) (htm : Tm a 33 σ) (h6 : σ 6 = v) (h : R (.returned v) w) : bodyPost P fn R .ret a w := by
  refine ⟨htm.defers, v, ?_, h⟩
  have h2 : a.tmps[6]?.getD undef = v := by have := htm.get 6; rw [h6] at this; simpa using this
  simp [results, hr, h2]
theorem del_none (hf : DelFn P f t ti el fn r o) (hie : P.info? el = some ie) (hn : n ≤ c) (hi : i ≤ n) :
    Calls P f #[.slice ad n c, .int .i64 ((i : Nat) : Int), .int .i64 ((i : Nat) : Int)] w fun x w' => x = .returned (.slice ad n c) ∧ w' = w := by
  refine calls_of_wp hf.pos hf.body ?_
  rw [hf.tmps]
  have key : ∀ a : Act, Tm a 33 (upd (upd (upd (fun _ => undef) 0 (.slice ad n c)) 1 (.int .i64 ((i : Nat) : Int))) 2 (.int .i64 ((i : Nat) : Int))) → (delCode r o).wp P (bodyPost P fn fun x w' => x = .returned (.slice ad n c) ∧ w' = w) a w := by
   intro a htm
   unfold delCode
   refine wp_seq (wp_region ?_)
   rw [show List.range (#[o 0] : Array Oper).size = [0] from rfl]
   refine htm.step (v := .slice none 0 0) rfl hf.ops.h0 (by decide) (run_asg hf.ops.h0 _) (fun a htm => ?_)
   refine wp_seq (wp_region ?_)
   rw [show List.range (#[o 1, o 2, o 3, o 4, o 5, o 6] : Array Oper).size = [0, 1, 2, 3, 4, 5] from rfl]
   refine htm.step (v := .slice ad n c) rfl hf.ops.h1 (by decide) (run_mv hf.ops.h1 _) (fun a htm => ?_)
   refine htm.step (v := .int .i64 ((i : Nat) : Int)) rfl hf.ops.h2 (by decide) (run_mv hf.ops.h2 _) (fun a htm => ?_)
   refine htm.step (v := .int .i64 ((i : Nat) : Int)) rfl hf.ops.h3 (by decide) (run_mv hf.ops.h3 _) (fun a htm => ?_)
   refine htm.step (v := .slice ad n c) rfl hf.ops.h4 (by decide) (run_mv hf.ops.h4 _) (fun a htm => ?_)
   refine htm.step (v := .int .i64 ((n : Nat) : Int)) rfl hf.ops.h5 (by decide) (run_len hf.ops.h5 hf.und rfl _) (fun a htm => ?_)
   refine htm.step rfl hf.ops.h6 (by decide) (run_three hf.ops.h6 hf.und hie rfl rfl rfl rfl (Nat.le_refl _) hi hn _) (fun a htm => ?_)
   refine wp_seq ?_
   refine wp_seq (wp_region ?_)
   rw [show List.range (#[o 7, o 8, o 9] : Array Oper).size = [0, 1, 2] from rfl]
   refine htm.step (v := .int .i64 ((i : Nat) : Int)) rfl hf.ops.h7 (by decide) (run_mv hf.ops.h7 _) (fun a htm => ?_)
   refine htm.step (v := .int .i64 ((i : Nat) : Int)) rfl hf.ops.h8 (by decide) (run_mv hf.ops.h8 _) (fun a htm => ?_)
   refine htm.step (v := .bool (decide (((i : Nat) : Int) = ((i : Nat) : Int)))) rfl hf.ops.h9 (by decide) (run_ieq hf.ops.h9 rfl rfl _) (fun a htm => ?_)
   refine htm.cond (b := true) (by show Value.bool (decide (((i : Nat) : Int) = ((i : Nat) : Int))) = _; rw [decide_eq_true rfl]) ?_
   simp only [if_true]
   refine wp_seq (wp_region ?_)
   rw [show List.range (#[o 10, o 11] : Array Oper).size = [0, 1] from rfl]
   refine htm.step (v := .slice ad n c) rfl hf.ops.h10 (by decide) (run_mv hf.ops.h10 _) (fun a htm => ?_)
   refine htm.step (v := .slice ad n c) rfl hf.ops.h11 (by decide) (run_asg hf.ops.h11 _) (fun a htm => ?_)
   refine wp_ret ?_
   show bodyPost P fn (fun x wq => x = .returned (.slice ad n c) ∧ wq = w) .ret a w
   refine del_ret hf.res htm (v := .slice ad n c) rfl ?_
   exact ⟨rfl, rfl⟩
  exact key _ (tm3 _ _ _ 30)
theorem del_some (hf : DelFn P f t ti el fn r o) (hie : P.info? el = some ie) (hse : ie.size = size) (hn : n ≤ c) (hij : i < j) (hj : j ≤ n) {w1 w2 : World}
    (hA : ∀ ty, (Builtin.append_ #[t, t] ty #[.slice (some ⟨g, 0, none⟩) i c, .slice (if c = j then (some ⟨g, 0, none⟩ : Option Addr) else some ⟨g, j * size, none⟩) (n - j) (c - j)]).run P { w with drawn := w.drawn + 1 } = .ok (.slice (some ⟨g, 0, none⟩) (i + (n - j)) c) w1)
    (hC : ∀ ty, (Builtin.clear_ #[t] ty #[.slice (some ⟨g, (i + (n - j)) * size, none⟩) (n - (i + (n - j))) (c - (i + (n - j)))]).run P w1 = .ok (.tuple #[]) w2) :
    Calls P f #[.slice (some ⟨g, 0, none⟩) n c, .int .i64 ((i : Nat) : Int), .int .i64 ((j : Nat) : Int)] w fun x w' => x = .returned (.slice (some ⟨g, 0, none⟩) (i + (n - j)) c) ∧ w' = w2 := by
  refine calls_of_wp hf.pos hf.body ?_
  rw [hf.tmps]
  have h0 : ∀ l : Nat, (⟨g, 0, none⟩ : Addr).add l = ⟨g, l, none⟩ := fun l => by
    have := Addr.add_mid g 0 l
    rwa [Nat.zero_add] at this
  have key : ∀ a : Act, Tm a 33 (upd (upd (upd (fun _ => undef) 0 (.slice (some ⟨g, 0, none⟩) n c)) 1 (.int .i64 ((i : Nat) : Int))) 2 (.int .i64 ((j : Nat) : Int))) → (delCode r o).wp P (bodyPost P fn fun x w' => x = .returned (.slice (some ⟨g, 0, none⟩) (i + (n - j)) c) ∧ w' = w2) a w := by
   intro a htm
   unfold delCode
   refine wp_seq (wp_region ?_)
   rw [show List.range (#[o 0] : Array Oper).size = [0] from rfl]
   refine htm.step (v := .slice none 0 0) rfl hf.ops.h0 (by decide) (run_asg hf.ops.h0 _) (fun a htm => ?_)
   refine wp_seq (wp_region ?_)
   rw [show List.range (#[o 1, o 2, o 3, o 4, o 5, o 6] : Array Oper).size = [0, 1, 2, 3, 4, 5] from rfl]
   refine htm.step (v := .slice (some ⟨g, 0, none⟩) n c) rfl hf.ops.h1 (by decide) (run_mv hf.ops.h1 _) (fun a htm => ?_)
   refine htm.step (v := .int .i64 ((i : Nat) : Int)) rfl hf.ops.h2 (by decide) (run_mv hf.ops.h2 _) (fun a htm => ?_)
   refine htm.step (v := .int .i64 ((j : Nat) : Int)) rfl hf.ops.h3 (by decide) (run_mv hf.ops.h3 _) (fun a htm => ?_)
   refine htm.step (v := .slice (some ⟨g, 0, none⟩) n c) rfl hf.ops.h4 (by decide) (run_mv hf.ops.h4 _) (fun a htm => ?_)
   refine htm.step (v := .int .i64 ((n : Nat) : Int)) rfl hf.ops.h5 (by decide) (run_len hf.ops.h5 hf.und rfl _) (fun a htm => ?_)
   refine htm.step rfl hf.ops.h6 (by decide) (run_three hf.ops.h6 hf.und hie rfl rfl rfl rfl (Nat.le_of_lt hij) hj hn _) (fun a htm => ?_)
   refine wp_seq ?_
   refine wp_seq (wp_region ?_)
   rw [show List.range (#[o 7, o 8, o 9] : Array Oper).size = [0, 1, 2] from rfl]
   refine htm.step (v := .int .i64 ((i : Nat) : Int)) rfl hf.ops.h7 (by decide) (run_mv hf.ops.h7 _) (fun a htm => ?_)
   refine htm.step (v := .int .i64 ((j : Nat) : Int)) rfl hf.ops.h8 (by decide) (run_mv hf.ops.h8 _) (fun a htm => ?_)
   refine htm.step (v := .bool (decide (((i : Nat) : Int) = ((j : Nat) : Int)))) rfl hf.ops.h9 (by decide) (run_ieq hf.ops.h9 rfl rfl _) (fun a htm => ?_)
   refine htm.cond (b := false) (by show Value.bool (decide (((i : Nat) : Int) = ((j : Nat) : Int))) = _; rw [decide_eq_false (by omega)]) ?_
   simp only [Bool.false_eq_true, if_false]
   refine wp_skip ?_
   refine wp_seq (wp_region ?_)
   rw [show List.range (#[o 12, o 13, o 14] : Array Oper).size = [0, 1, 2] from rfl]
   refine htm.step (v := .slice (some ⟨g, 0, none⟩) n c) rfl hf.ops.h12 (by decide) (run_mv hf.ops.h12 _) (fun a htm => ?_)
   refine htm.step (v := .int .i64 ((n : Nat) : Int)) rfl hf.ops.h13 (by decide) (run_len hf.ops.h13 hf.und rfl _) (fun a htm => ?_)
   refine htm.step (v := .int .i64 ((n : Nat) : Int)) rfl hf.ops.h14 (by decide) (run_asg hf.ops.h14 _) (fun a htm => ?_)
   refine wp_seq (wp_draw2 hf.mix hf.ops.d5 (k := 6) rfl fun hord => ?_)
   refine htm.draw2 (v := .slice (some ⟨g, 0, none⟩) n c) rfl hf.ops.h15 (by decide) hord (fun w => run_mv hf.ops.h15 _) (fun a htm hord => ?_)
   refine htm.draw2 (v := .int .i64 ((i : Nat) : Int)) rfl hf.ops.h16 (by decide) hord (fun w => run_mv hf.ops.h16 _) (fun a htm hord => ?_)
   refine htm.draw2 (v := .slice (some ⟨g, 0, none⟩) i c) rfl hf.ops.h17 (by decide) hord (fun w => run_upto hf.ops.h17 hf.und hie hse rfl rfl (by omega) _) (fun a htm hord => ?_)
   refine htm.draw2 (v := .slice (some ⟨g, 0, none⟩) n c) rfl hf.ops.h18 (by decide) hord (fun w => run_mv hf.ops.h18 _) (fun a htm hord => ?_)
   refine htm.draw2 (v := .int .i64 ((j : Nat) : Int)) rfl hf.ops.h19 (by decide) hord (fun w => run_mv hf.ops.h19 _) (fun a htm hord => ?_)
   refine htm.draw2 (v := .slice (if c = j then (some ⟨g, 0, none⟩ : Option Addr) else some ⟨g, j * size, none⟩) (n - j) (c - j)) rfl hf.ops.h20 (by decide) hord (fun w => by
     refine (run_from (P := P) hf.ops.h20 hf.und hie hse (ad := some ⟨g, 0, none⟩) (m := n) (c := c) (l := j) rfl rfl hj w).trans ?_
     rw [show (some (⟨g, 0, none⟩ : Addr)).map (·.add (j * size)) = some ⟨g, j * size, none⟩ from congrArg some (h0 _)]) (fun a htm hord => ?_)
   refine htm.last2 (v := .slice (some ⟨g, 0, none⟩) (i + (n - j)) c) (v2 := .slice (some ⟨g, 0, none⟩) (i + (n - j)) c) rfl hf.ops.h21 (by decide) rfl hf.ops.h22 (by decide) hord (run_app2 hf.ops.h21 rfl rfl (hA _)) (run_asg hf.ops.h22 _) (fun a htm => ?_)
   refine wp_seq (wp_region ?_)
   rw [show List.range (#[o 23, o 24, o 25, o 26, o 27, o 28] : Array Oper).size = [0, 1, 2, 3, 4, 5] from rfl]
   refine htm.step (v := .slice (some ⟨g, 0, none⟩) (i + (n - j)) c) rfl hf.ops.h23 (by decide) (run_mv hf.ops.h23 _) (fun a htm => ?_)
   refine htm.step (v := .slice (some ⟨g, 0, none⟩) (i + (n - j)) c) rfl hf.ops.h24 (by decide) (run_mv hf.ops.h24 _) (fun a htm => ?_)
   refine htm.step (v := .int .i64 ((i + (n - j) : Nat) : Int)) rfl hf.ops.h25 (by decide) (run_len hf.ops.h25 hf.und rfl _) (fun a htm => ?_)
   refine htm.step (v := .int .i64 ((n : Nat) : Int)) rfl hf.ops.h26 (by decide) (run_mv hf.ops.h26 _) (fun a htm => ?_)
   refine htm.step (v := .slice (some ⟨g, (i + (n - j)) * size, none⟩) (n - (i + (n - j))) (c - (i + (n - j)))) rfl hf.ops.h27 (by decide) (by
     refine (run_between (P := P) hf.ops.h27 hf.und hie hse (ad := some ⟨g, 0, none⟩) (m := i + (n - j)) (c := c) (l := i + (n - j)) (h := n) rfl rfl rfl (by omega) (by omega) w1).trans ?_
     rw [if_neg (show ¬ c = i + (n - j) by omega)]
     rw [show (some (⟨g, 0, none⟩ : Addr)).map (·.add ((i + (n - j)) * size)) = some ⟨g, (i + (n - j)) * size, none⟩ from congrArg some (h0 _)]) (fun a htm => ?_)
   refine htm.step0 (v := .tuple #[]) rfl hf.ops.h28 (run_clr hf.ops.h28 rfl (hC _)) ?_
   refine wp_seq (wp_region ?_)
   rw [show List.range (#[o 29, o 30] : Array Oper).size = [0, 1] from rfl]
   refine htm.step (v := .slice (some ⟨g, 0, none⟩) (i + (n - j)) c) rfl hf.ops.h29 (by decide) (run_mv hf.ops.h29 _) (fun a htm => ?_)
   refine htm.step (v := .slice (some ⟨g, 0, none⟩) (i + (n - j)) c) rfl hf.ops.h30 (by decide) (run_asg hf.ops.h30 _) (fun a htm => ?_)
   refine wp_ret ?_
   show bodyPost P fn (fun x wq => x = .returned (.slice (some ⟨g, 0, none⟩) (i + (n - j)) c) ∧ wq = w2) .ret a w2
   refine del_ret hf.res htm (v := .slice (some ⟨g, 0, none⟩) (i + (n - j)) c) rfl ?_
   exact ⟨rfl, rfl⟩
  exact key _ (tm3 _ _ _ 30)
end
section
variable {P : Program} {c : Ctx} {f : Nat}
theorem delete_ok {t ti el : Nat} {fn : Func} {r : Nat → Nat} {o : Nat → Oper} {I E : TI} {xs : List MV} {i j : Nat} (hf : DelFn P f t ti el fn r o) (hT : TIok P c.ti) (hI : c.tv t = some I) (hL : I.isL = true) (hE : c.tv I.elem = some E)
    (hel : el = I.elem) (hfty : c.fty (c.key f) = I.elem) (hg : c.gives (c.key f) = true) (hij : i ≤ j) (hj : j ≤ xs.length) : Sound1 P c f [.fresh xs, .i .i64 i, .i .i64 j] (.fresh (xs.take i ++ xs.drop j)) := by
  subst hel
  obtain ⟨hIt, hIc⟩ := tv_some hI
  obtain ⟨hEi, hEc⟩ := tv_some hE
  obtain ⟨hu, E2, hE2, _, hpos⟩ := TI.isL_of (hT t I hIt) hL
  rw [hEi] at hE2
  cases hE2
  obtain ⟨ie, z, hie, hse, hby, hz0, hzs⟩ := zero_size (hT _ E hEi) hEc
  obtain ⟨ie2, z2, hie2, hz2, hzr⟩ := alloc_zero hE hT
  rw [hie] at hie2
  cases hie2
  rw [hz0] at hz2
  cases hz2
  have hz1 : ∀ v ∈ z.cells.toList, v.oneCell' = true := (hzr (env0 c.key fun _ _ => none)).cells
  intro φ W Z vs hz hargs himm
  simp only [ArgsIn, hg, if_true] at hargs
  obtain ⟨v0, v1, v2, xs', m1, m2, rfl, hms, h2one, F0, A1, A2⟩ := (hargs.resolve_left (by
    rintro ⟨_, _, _, _, _, ys, _, h1, _⟩
    simp only [List.cons.injEq, and_true] at h1
    exact absurd h1.2.2 (by simp))).resolve_right (by
    rintro ⟨pos, _, _, _, _, _, _, h1, _⟩
    rcases pos with _ | _ | _ | pos <;> simp at h1)
  simp only [List.cons.injEq, MV.fresh.injEq, and_true] at hms
  obtain ⟨rfl, rfl, rfl⟩ := hms
  have num : ∀ {v : Value} {n : Nat}, ArgRep c.key φ v (.i .i64 (n : Int)) → v = .int .i64 (n : Int) := by
    intro v n h
    obtain ⟨_, h⟩ := h
    generalize hvs : [v] = l at h
    cases h; simpa using hvs
  have hv1 := num A1
  have hv2 := num A2
  subst hv1
  subst hv2
  rw [hfty] at F0
  obtain ⟨I0, cells, hI0, _, hown0, hels0, hblk0⟩ := F0
  have hI0 : c.ti I.elem = some I0 := hI0
  rw [hEi] at hI0
  cases hI0
  have hown0 : W.ownsRow 0 I.elem E.size v0 xs.length cells := hown0
  have hels0 : ElemsRep c.key φ E.size cells xs := hels0
  have hv0 : ∀ b, v0.ownBlock = some b → Z b ∧ ∀ off, φ b off = none := by
    intro b hb
    refine ⟨(hblk0 b hb).1, fun off => ?_⟩
    cases h : φ b off with
    | none => rfl
    | some u => have := ((hblk0 b hb).2.1 off u h).1; cases this
  have hcl : cells.length = xs.length * E.size := hels0.length
  have hrun : (callFunc f [v0, .int .i64 (i : Int), .int .i64 (j : Int)].toArray).run P W = .ok (.enter f #[v0, .int .i64 (i : Int), .int .i64 (j : Int)]) W := by
    have hn2 : ¬ fn.name = "runtime.NumGoroutine" := by simpa using hf.name
    simp [callFunc, hf.pos, hn2, hf.body]
  unfold CallOK
  rw [hrun]
  rcases Nat.lt_or_ge i j with hlt | hge
  · -- some go
    obtain ⟨g, cp, cur, rfl, _, hg0, hnc, hcm, hcs, htk⟩ : ∃ g cp cur, v0 = .slice (some ⟨g, 0, none⟩) xs.length cp ∧ 0 ≤ g ∧ W.heap[g]? = some (.cells cur I.elem (0, 0)) ∧ xs.length ≤ cp ∧ cp ≤ maxLen ∧ cur.size = cp * E.size ∧ cur.toList.take (xs.length * E.size) = cells := by
      rcases hown0.2 with ⟨_, h0⟩ | h
      · omega
      · exact h
    have hl0 : cells.length ≤ cur.size := by rw [hcl, hcs]; exact Nat.mul_le_mul_right _ hnc
    obtain ⟨news, hnews⟩ : ∃ news, news = cells.drop (j * E.size) := ⟨_, rfl⟩
    have hnl : news.length = (xs.length - j) * E.size := by rw [hnews, List.length_drop, hcl, Nat.sub_mul]
    have hn1 : ∀ u ∈ news, u.oneCell' = true := fun u hu => hels0.cells1 u (by rw [hnews] at hu; exact List.mem_of_mem_drop hu)
    have hmul : ∀ {a b : Nat}, a ≤ b → a * E.size ≤ b * E.size := fun h => Nat.mul_le_mul_right _ h
    have hij' : i * E.size ≤ j * E.size := hmul (by omega)
    have hjn : j * E.size ≤ xs.length * E.size := hmul hj
    have hnc' : xs.length * E.size ≤ cp * E.size := hmul hnc
    have hlo : (i + (xs.length - j)) * E.size = i * E.size + news.length := by rw [Nat.add_mul, hnl]
    have hsum : news.length + j * E.size = xs.length * E.size := by rw [hnl, Nat.sub_mul]; omega
    -- the append
    obtain ⟨cur1, hcur1⟩ : ∃ cur1 : Array Value, cur1 = (cur.toList.take (i * E.size) ++ news ++ cur.toList.drop (i * E.size + news.length)).toArray := ⟨_, rfl⟩
    have lcur : cur.toList.length = cur.size := Array.length_toList
    have lcur1 : cur1.toList.length = cur1.size := Array.length_toList
    have hA : ∀ ty, (Builtin.append_ #[t, t] ty #[.slice (some ⟨g, 0, none⟩) i cp, .slice (if cp = j then (some ⟨g, 0, none⟩ : Option Addr) else some ⟨g, j * E.size, none⟩) (xs.length - j) (cp - j)]).run P { W with drawn := W.drawn + 1 } = .ok (.slice (some ⟨g, 0, none⟩) (i + (xs.length - j)) cp) (({ W with drawn := W.drawn + 1 } : World).setRow g cur1) := by
      intro ty
      have hfit : i * ie.size + news.length ≤ cur.size := by rw [hse, hcs]; omega
      by_cases hcj : cp = j
      · rw [if_pos hcj]
        refine run_append_room (P := P) (w := { W with drawn := W.drawn + 1 }) t ty I.elem ie hu hie g i cp cur hg0 ⟨g, 0, none⟩ (xs.length - j) (cp - j) news (by rw [hse]; exact hnl) ?_ hn1 (by omega) hfit |>.trans ?_
        · intro q u hq
          have := (List.getElem?_eq_some_iff.1 hq).1
          rw [hnl, show xs.length - j = 0 by omega] at this
          omega
        · rw [hse, hcur1]
      · rw [if_neg hcj]
        refine run_append_room (P := P) (w := { W with drawn := W.drawn + 1 }) t ty I.elem ie hu hie g i cp cur hg0 ⟨g, j * E.size, none⟩ (xs.length - j) (cp - j) news (by rw [hse]; exact hnl) ?_ hn1 (by omega) hfit |>.trans ?_
        · intro q u hq
          have h1 := hown0.cells (g := g) rfl (j * E.size + q) u (by rw [hnews, List.getElem?_drop] at hq; exact hq)
          rw [Addr.add_mid] at h1 ⊢
          rw [Nat.zero_add] at h1
          exact h1
        · rw [hse, hcur1]
    have hc1 : cur1.size = cur.size := by
      rw [hcur1]
      simp only [List.size_toArray, List.length_append, List.length_take, List.length_drop, lcur]
      omega
    have hg1 : (({ W with drawn := W.drawn + 1 } : World).setRow g cur1).heap[g]? = some (.cells cur1 I.elem (0, 0)) := setRow_at _ hg0
    obtain ⟨zs, hzl, hC0⟩ := run_clear_wide (P := P) (t := t) (ty := 0) (c := cp - (i + (xs.length - j))) (w := ({ W with drawn := W.drawn + 1 } : World).setRow g cur1) (off := (i + (xs.length - j)) * E.size) (n := xs.length - (i + (xs.length - j))) hu hie hz0 hzs hz1 hg1 (by omega) (by rw [hc1, hcs, ← Nat.add_mul]; exact hmul (by omega))
    obtain ⟨cur2, hcur2⟩ : ∃ cur2 : Array Value, cur2 = (cur1.toList.take ((i + (xs.length - j)) * E.size) ++ zs ++ cur1.toList.drop ((i + (xs.length - j)) * E.size + zs.length)).toArray := ⟨_, rfl⟩
    rw [← hcur2] at hC0
    have hC : ∀ ty, (Builtin.clear_ #[t] ty #[.slice (some ⟨g, (i + (xs.length - j)) * E.size, none⟩) (xs.length - (i + (xs.length - j))) (cp - (i + (xs.length - j)))]).run P (({ W with drawn := W.drawn + 1 } : World).setRow g cur1) = .ok (.tuple #[]) ((({ W with drawn := W.drawn + 1 } : World).setRow g cur1).setRow g cur2) := fun ty => hC0
    refine (del_some (w := W) hf hie hse hnc hlt hj hA hC).mono ?_
    rintro x w' ⟨rfl, rfl⟩
    refine ⟨_, rfl, ?_⟩
    have hzl2 : zs.length = (j - i) * E.size := by rw [hzl]; congr 1; omega
    have hc2 : cur2.size = cur.size := by
      rw [hcur2]
      simp only [List.size_toArray, List.length_append, List.length_take, List.length_drop, lcur1, hc1]
      rw [hzl2, Nat.sub_mul, hlo]
      omega
    have htk2 : cur2.toList.take ((i + (xs.length - j)) * E.size) = cells.take (i * E.size) ++ cells.drop (j * E.size) := by
      rw [hcur2]
      have l1 : (cur1.toList.take ((i + (xs.length - j)) * E.size)).length = (i + (xs.length - j)) * E.size := by
        rw [List.length_take, lcur1, hc1, hcs, hlo]; omega
      rw [show ∀ l : List Value, l.toArray.toList = l from fun _ => rfl, List.append_assoc, List.take_append_of_le_length (by rw [l1]; exact Nat.le_refl _), List.take_of_length_le (by rw [l1]; exact Nat.le_refl _), hlo, hcur1]
      have l2 : (cur.toList.take (i * E.size)).length = i * E.size := by rw [List.length_take, lcur, hcs]; omega
      rw [show ∀ l : List Value, l.toArray.toList = l from fun _ => rfl, List.take_append_of_le_length (by rw [List.length_append, l2]; exact Nat.le_refl _), List.take_of_length_le (by rw [List.length_append, l2]; exact Nat.le_refl _), hnews]
      congr 1
      rw [← htk, List.take_take, Nat.min_eq_left (by omega)]
    have e2 : (({ W with drawn := W.drawn + 1 } : World).setRow g cur1).setRow g cur2 = ({ W with drawn := W.drawn + 1 } : World).setRow g cur2 := setRow_setRow _ _ _ _
    have hg2 : ((({ W with drawn := W.drawn + 1 } : World).setRow g cur1).setRow g cur2).heap[g]? = some (.cells cur2 I.elem (0, 0)) := setRow_at _ hg1
    have hrl : (xs.take i ++ xs.drop j).length = i + (xs.length - j) := by rw [List.length_append, List.length_take, List.length_drop]; omega
    refine fin_own (n := i + (xs.length - j)) (cells := cells.take (i * E.size) ++ cells.drop (j * E.size)) hz himm hEi hEc hfty ?_ ?_ ?_ hv0 ?_ hrl ((hels0.take i).append (hels0.drop j)) ?_
    · intro b _ hne
      have hbg : b ≠ g := fun e => hne (by rw [e]; rfl)
      rw [setRow_other _ _ _ _ hbg, setRow_other _ _ _ _ hbg]
    · simp [World.setRow]
    · have r1 : Rest W ({ W with drawn := W.drawn + 1 } : World) := ⟨rfl, rfl, rfl, fun _ => rfl⟩
      exact (r1.trans (Rest.setRow _ g cur1)).trans (Rest.setRow _ g cur2)
    · refine ⟨?_, .inr ⟨g, cp, cur2, rfl, Nat.zero_le _, hg2, by omega, hcm, by rw [hc2, hcs], htk2⟩⟩
      rw [List.length_append, List.length_take, List.length_drop, hcl, hlo, hnl, Nat.sub_mul]; omega
    · intro b hb; exact .inl hb
  · -- none goes
    have hji : j = i := by omega
    subst hji
    obtain ⟨ad, cp, hv, hnc⟩ : ∃ ad cp, v0 = .slice ad xs.length cp ∧ xs.length ≤ cp := by
      rcases hown0.2 with ⟨h1, h2⟩ | ⟨g, cp, cur, h1, _, _, h4, _⟩
      · exact ⟨none, 0, by rw [h1, h2], by omega⟩
      · exact ⟨_, cp, h1, h4⟩
    have hvv := hv
    subst hv
    refine (del_none (w := W) (ad := ad) hf hie hnc hj).mono ?_
    rintro x w' ⟨rfl, rfl⟩
    refine ⟨_, rfl, φ, ⟨.refl _, fun _ _ _ => rfl, fun _ _ _ => rfl, Nat.le_refl _, .refl _⟩, himm, ?_⟩
    show FamOK c (Zone.plain Z) (env0 c.key φ) w' _ ⟨c.fty (c.key f), false, xs.take j ++ xs.drop j⟩
    rw [hfty, List.take_append_drop]
    exact ⟨E, cells, hEi, hEc, hown0, hels0, hblk0⟩
end
def deleteF : List MV → Option MV
  | [.fresh xs, .i .i64 i, .i .i64 j] => bif decide (0 ≤ i) && (decide (i ≤ j) && decide (j ≤ (xs.length : Int))) then some (.fresh (xs.take i.toNat ++ xs.drop j.toNat)) else none
  | _ => none
theorem deleteF_some {ms : List MV} {r : MV} (h : deleteF ms = some r) : ∃ xs i j, ms = [.fresh xs, .i .i64 ((i : Nat) : Int), .i .i64 ((j : Nat) : Int)] ∧ r = .fresh (xs.take i ++ xs.drop j) ∧ i ≤ j ∧ j ≤ xs.length := by
  unfold deleteF at h
  split at h
  · rename_i xs i j
    cases hb : decide (0 ≤ i) && (decide (i ≤ j) && decide (j ≤ (xs.length : Int))) with
    | false => rw [hb] at h; cases h
    | true =>
      simp only [hb, cond_true, Option.some.injEq] at h
      simp only [Bool.and_eq_true, decide_eq_true_eq] at hb
      obtain ⟨h1, h2, h3⟩ := hb
      refine ⟨xs, i.toNat, j.toNat, ?_, h.symm, by omega, by omega⟩
      rw [Int.toNat_of_nonneg h1, Int.toNat_of_nonneg (by omega)]
  · cases h
end Dn
/-
  Functions of the library as table entries. Conditions: none.
-/
set_option linter.unusedVariables false
namespace Dn
open Go
def cloneF (size bytes : Nat) : List MV → Option MV
  | [.list xs] => bif wids size xs && Nat.ble (xs.length * bytes) (2 ^ 46) then some (.fresh xs) else none
  | _ => none
def insertF (bytes : Nat) : List MV → Option MV
  | [.fresh xs, .i .i64 i, .fresh ys] => bif decide (0 ≤ i) && (Nat.ble i.toNat xs.length && (!ys.isEmpty && Nat.ble ((xs.length + ys.length) * bytes) (2 ^ 46))) then some (.fresh (xs.take i.toNat ++ ys ++ xs.drop i.toNat)) else none
  | _ => none
theorem cloneF_some {size bytes : Nat} {ms : List MV} {r : MV} (h : cloneF size bytes ms = some r) : ∃ xs, ms = [.list xs] ∧ r = .fresh xs ∧ wids size xs = true ∧ xs.length * bytes ≤ 2 ^ 46 := by
  unfold cloneF at h
  split at h
  · rename_i xs
    cases hb : wids size xs && Nat.ble (xs.length * bytes) (2 ^ 46) with
    | false => simp [hb] at h
    | true =>
      simp only [hb, cond_true, Option.some.injEq] at h
      simp only [Bool.and_eq_true] at hb
      exact ⟨xs, rfl, h.symm, hb.1, Nat.le_of_ble_eq_true hb.2⟩
  · cases h
theorem insertF_some {bytes : Nat} {ms : List MV} {r : MV} (h : insertF bytes ms = some r) : ∃ xs ys i, ms = [.fresh xs, .i .i64 ((i : Nat) : Int), .fresh ys] ∧ r = .fresh (xs.take i ++ ys ++ xs.drop i) ∧ i ≤ xs.length ∧ ys ≠ [] ∧ (xs.length + ys.length) * bytes ≤ 2 ^ 46 := by
  unfold insertF at h
  split at h
  · rename_i xs i ys
    cases hb : decide (0 ≤ i) && (Nat.ble i.toNat xs.length && (!ys.isEmpty && Nat.ble ((xs.length + ys.length) * bytes) (2 ^ 46))) with
    | false => rw [hb] at h; cases h
    | true =>
      simp only [hb, cond_true, Option.some.injEq] at h
      simp only [Bool.and_eq_true, decide_eq_true_eq, Bool.not_eq_true'] at hb
      obtain ⟨h1, h2, h3, h4⟩ := hb
      refine ⟨xs, ys, i.toNat, ?_, h.symm, Nat.le_of_ble_eq_true h2, ?_, Nat.le_of_ble_eq_true h4⟩
      · rw [Int.toNat_of_nonneg h1]
      · intro hy; subst hy; simp at h3
  · cases h
theorem SoundG.none (P : Program) (c : Ctx) : SoundG P c (fun _ _ => Option.none) := ⟨fun f ms r h => by cases h⟩
theorem SoundG.add1 {P : Program} {c : Ctx} {g : Nat → List MV → Option MV} {n : Nat} {F : List MV → Option MV} (h : SoundG P c g) (hkey : ∀ f, c.key f = f) (hF : ∀ ms r, F ms = some r → Sound1 P c n ms r) : SoundG P c (addG n F g) :=
  h.add (fun f ms r hk hr => by
    rw [hkey] at hk
    rw [hk]
    exact hF ms r hr)
/-- the operations of a text, one after the other -/
def codeOps : Code → List Oper
  | .region _ ops _ => ops.toList
  | .seq x y => codeOps x ++ codeOps y
  | .cond _ x y => codeOps x ++ codeOps y
  | _ => []
def opAt (fn : Func) (d : Oper) (k : Nat) : Oper := match fn.body with | some c => (codeOps c).getD k d | none => d
def insTail (o : Nat → Oper) : Code := .seq (.region 18 #[o 83, o 84, o 85, o 86, o 87] false) (.seq (.region 19 #[o 88, o 89, o 90, o 91, o 92] false) (.seq (.region 20 #[o 93, o 94] false) .ret))
def noOp : Oper := { dst := none, op := .move (.tmp 0), type := 0, pos := "", after := #[], guard := none }
end Dn
/-
  Reasoning about functions on values. Conditions: none.
-/
set_option linter.unusedVariables false
namespace Dn
open Go
section
variable {R : Type}
@[simp] theorem gB_b (x : Bool) (K : Bool → Option R) : gB (.b x) K = K x := (rfl)
@[simp] theorem gI_i (k : IntKind) (x : Int) (K : Int → Option R) : gI k (.i k x) K = K x := by simp [gI]
@[simp] theorem gS_s (x : List UInt8) (K : List UInt8 → Option R) : gS (.s x) K = K x := (rfl)
@[simp] theorem gL_l (x : List MV) (K : List MV → Option R) : gL (.list x) K = K x := (rfl)
@[simp] theorem gH_h (x : Hash) (K : Hash → Option R) : gH (.h x) K = K x := (rfl)
@[simp] theorem gA_a (x : List MV) (K : List MV → Option R) : gA (.agg x) K = K x := (rfl)
@[simp] theorem gT_t (x : List MV) (K : List MV → Option R) : gT (.tup x) K = K x := (rfl)
@[simp] theorem gF_f (x : List MV) (K : List MV → Option R) : gF (.fresh x) K = K x := (rfl)
@[simp] theorem gFn_f (f : Nat) (x : List MV) (K : Nat → List MV → Option R) : gFn (.func f x) K = K f x := (rfl)
@[simp] theorem gR_f (f : Nat) (x : List MV) (K : MV → Option R) : gR (.func f x) K = K (.func f x) := (rfl)
@[simp] theorem gC_c (m : MV) (r : List MV) (K : MV → List MV → Option R) : gC (m :: r) K = K m r := (rfl)
@[simp] theorem gN_n (K : Option R) : gN [] K = K := (rfl)
@[simp] theorem bd_s {α : Type} (a : α) (K : α → Option R) : bd (some a) K = K a := (rfl)
@[simp] theorem nbeq' (a b : Nat) : Nat.beq a b = decide (a = b) := nbeq a b
@[simp] theorem chk_true (K : Option R) : chk true K = K := (rfl)
@[simp] theorem ifB_true (x y : Option R) : ifB true x y = x := (rfl)
@[simp] theorem ifB_false (x y : Option R) : ifB false x y = y := (rfl)
theorem ifB_ite (c : Prop) [Decidable c] (x y : Option R) : ifB (decide c) x y = if c then x else y := by
  by_cases h : c <;> simp [h]
theorem chk_of {c : Bool} (h : c = true) (K : Option R) : chk c K = K := by rw [h]; rfl
theorem idx_map {α : Type} (f : α → MV) (L : List α) (k : Nat) (h : k < L.length) (K : MV → Option R) : idx (L.map f) (k : Int) K = K (f L[k]) := by
  simp [idx, idxO, h]
theorem idx_at (L : List MV) (k : Nat) (h : k < L.length) (K : MV → Option R) : idx L (k : Int) K = K L[k] := by
  simp [idx, idxO, h]
end
theorem wrap_id {x : Int} (h1 : -9223372036854775808 ≤ x) (h2 : x ≤ 9223372036854775807) : IntKind.wrap .i64 x = x := by rw [IntKind.wrap_i64]; omega
theorem mid_eq {i j : Nat} (h : i + j < 2 ^ 62) : IntKind.wrap .i64 (Int.fdiv (IntKind.wrap .u64 (IntKind.wrap .i64 ((i : Int) + (j : Int)))) (2 ^ min (Int.toNat 1) (IntKind.bits .u64))) = (((i + j) / 2 : Nat) : Int) := by
  have h1 : IntKind.wrap .i64 ((i : Int) + (j : Int)) = ((i + j : Nat) : Int) := by rw [IntKind.wrap_i64]; omega
  have h2 : IntKind.wrap .u64 ((i + j : Nat) : Int) = ((i + j : Nat) : Int) := by
    have : IntKind.wrap .u64 ((i + j : Nat) : Int) = ((i + j : Nat) : Int) % 18446744073709551616 := by simp [IntKind.wrap, IntKind.signed, IntKind.bits]
    rw [this]; omega
  have h3 : (2 : Int) ^ min (Int.toNat 1) (IntKind.bits .u64) = 2 := by decide
  rw [h1, h2, h3, Int.fdiv_eq_ediv_of_nonneg _ (by omega)]
  rw [IntKind.wrap_i64]; omega
section
variable {σ R : Type} {body : σ → Option (Sum σ R)}
theorem iter_mono {n : Nat} {s : σ} {r : R} (h : iter body n s = some r) : ∀ {m : Nat}, n ≤ m → iter body m s = some r := by
  induction n generalizing s with
  | zero => cases h
  | succ n ih =>
    intro m hm
    obtain ⟨m, rfl⟩ : ∃ k, m = k + 1 := ⟨m - 1, by omega⟩
    simp only [iter] at h ⊢
    cases hb : body s with
    | none => rw [hb] at h; cases h
    | some x =>
      rw [hb] at h
      cases x with
      | inl s' => exact ih h (by omega)
      | inr r' => exact h
theorem Loop_of_iter {n : Nat} {s : σ} {r : R} (h : iter body n s = some r) : Loop body s = some r := by
  have he : ∃ r n, iter body n s = some r := ⟨r, n, h⟩
  unfold Loop
  rw [dif_pos he]
  obtain ⟨m, hm⟩ := Classical.choose_spec he
  have h1 := iter_mono h (Nat.le_max_left n m)
  have h2 := iter_mono hm (Nat.le_max_right n m)
  rw [h1] at h2
  exact h2.symm
/-- a loop with an invariant and something that falls -/
theorem Loop_inv (I : σ → Prop) (μ : σ → Nat) (Q : R → Prop) (h : ∀ s, I s → (∃ s', body s = some (.inl s') ∧ I s' ∧ μ s' < μ s) ∨ (∃ r, body s = some (.inr r) ∧ Q r)) {s : σ} (hs : I s) : ∃ r, Loop body s = some r ∧ Q r := by
  have key : ∀ k s, I s → μ s < k → ∃ r, iter body k s = some r ∧ Q r := by
    intro k
    induction k with
    | zero => intro s _ h; omega
    | succ k ih =>
      intro s hs hk
      rcases h s hs with ⟨s', e, hi, hm⟩ | ⟨r, e, hq⟩
      · obtain ⟨r, e2, hq⟩ := ih s' hi (by omega)
        exact ⟨r, by simp only [iter, e]; exact e2, hq⟩
      · exact ⟨r, by simp only [iter, e], hq⟩
  obtain ⟨r, e, hq⟩ := key (μ s + 1) s hs (by omega)
  exact ⟨r, Loop_of_iter e, hq⟩
theorem Loop_invT {τ : Type} (S : τ → σ) (I : τ → Prop) (μ : τ → Nat) (Q : R → Prop) (h : ∀ t, I t → (∃ t', body (S t) = some (.inl (S t')) ∧ I t' ∧ μ t' < μ t) ∨ (∃ r, body (S t) = some (.inr r) ∧ Q r)) {t : τ} (ht : I t) : ∃ r, Loop body (S t) = some r ∧ Q r := by
  have key : ∀ k t, I t → μ t < k → ∃ r, iter body k (S t) = some r ∧ Q r := by
    intro k
    induction k with
    | zero => intro t _ h; omega
    | succ k ih =>
      intro t ht hk
      rcases h t ht with ⟨t', e, hi, hm⟩ | ⟨r, e, hq⟩
      · obtain ⟨r, e2, hq⟩ := ih t' hi (by omega)
        exact ⟨r, by simp only [iter, e]; exact e2, hq⟩
      · exact ⟨r, by simp only [iter, e], hq⟩
  obtain ⟨r, e, hq⟩ := key (μ t + 1) t ht (by omega)
  exact ⟨r, Loop_of_iter e, hq⟩
/-- a loop that counts up to some number: state k goes to state k + 1, or it ends -/
theorem Loop_nat (S : Nat → σ) (N : Nat) (Q : R → Prop) (P : Nat → Prop) (h0 : P 0) (h : ∀ k, k < N → P k → (body (S k) = some (.inl (S (k + 1))) ∧ P (k + 1)) ∨ (∃ r, body (S k) = some (.inr r) ∧ Q r)) (he : P N → ∃ r, body (S N) = some (.inr r) ∧ Q r) : ∃ r, Loop body (S 0) = some r ∧ Q r := by
  have key : ∀ d k, k + d = N → P k → ∃ r, iter body (d + 1) (S k) = some r ∧ Q r := by
    intro d
    induction d with
    | zero =>
      intro k hk hp
      have : k = N := by omega
      subst this
      obtain ⟨r, e, hq⟩ := he hp
      exact ⟨r, by simp only [iter, e], hq⟩
    | succ d ih =>
      intro k hk hp
      rcases h k (by omega) hp with ⟨e, hp'⟩ | ⟨r, e, hq⟩
      · obtain ⟨r, e2, hq⟩ := ih (k + 1) (by omega) hp'
        exact ⟨r, by rw [iter, e]; exact e2, hq⟩
      · exact ⟨r, by rw [iter, e], hq⟩
  obtain ⟨r, e, hq⟩ := key N 0 (by omega) h0
  exact ⟨r, Loop_of_iter e, hq⟩
theorem Loop_cnt (S : Nat → σ) (N : Nat) (r : R) (h : ∀ k, k < N → body (S k) = some (.inl (S (k + 1)))) (he : body (S N) = some (.inr r)) : Loop body (S 0) = some r := by
  obtain ⟨r', e, rfl⟩ := Loop_nat (body := body) S N (· = r) (fun _ => True) trivial (fun k hk _ => .inl ⟨h k hk, trivial⟩) (fun _ => ⟨r, he, rfl⟩)
  exact e
theorem bd_loopT {τ R' : Type} {K : R → Option R'} {X : Option R'} (S : τ → σ) (I : τ → Prop) (μ : τ → Nat) (Q : R → Prop) (t : τ) {s : σ} (e : s = S t) (ht : I t) (h : ∀ t, I t → (∃ t', body (S t) = some (.inl (S t')) ∧ I t' ∧ μ t' < μ t) ∨ (∃ r, body (S t) = some (.inr r) ∧ Q r)) (hk : ∀ r, Q r → K r = X) : bd (Loop body s) K = X := by
  obtain ⟨r, e1, hq⟩ := Loop_invT S I μ Q h ht
  rw [e, e1]
  exact hk r hq
theorem bd_loopN {R' : Type} {K : R → Option R'} {X : Option R'} (S : Nat → σ) (N : Nat) (Q : R → Prop) (P : Nat → Prop) {s : σ} (e : s = S 0) (h0 : P 0) (h : ∀ k, k < N → P k → (body (S k) = some (.inl (S (k + 1))) ∧ P (k + 1)) ∨ (∃ r, body (S k) = some (.inr r) ∧ Q r)) (he : P N → ∃ r, body (S N) = some (.inr r) ∧ Q r) (hk : ∀ r, Q r → K r = X) : bd (Loop body s) K = X := by
  obtain ⟨r, e1, hq⟩ := Loop_nat S N Q P h0 h he
  rw [e, e1]
  exact hk r hq
theorem loopT_all {τ R' : Type} {K : R → Option R'} (Φ : Option R' → Prop) (S : τ → σ) (I : τ → Prop) (μ : τ → Nat) (Q : R → Prop) (t : τ) {s : σ} (e : s = S t) (ht : I t) (h : ∀ t, I t → (∃ t', body (S t) = some (.inl (S t')) ∧ I t' ∧ μ t' < μ t) ∨ (∃ r, body (S t) = some (.inr r) ∧ Q r)) (hk : ∀ r, Q r → Φ (K r)) : Φ (bd (Loop body s) K) := by
  obtain ⟨r, e1, hq⟩ := Loop_invT S I μ Q h ht
  rw [e, e1]
  exact hk r hq
theorem loopN_all {R' : Type} {K : R → Option R'} (Φ : Option R' → Prop) (S : Nat → σ) (N : Nat) (Q : R → Prop) (P : Nat → Prop) {s : σ} (e : s = S 0) (h0 : P 0) (h : ∀ k, k < N → P k → (body (S k) = some (.inl (S (k + 1))) ∧ P (k + 1)) ∨ (∃ r, body (S k) = some (.inr r) ∧ Q r)) (he : P N → ∃ r, body (S N) = some (.inr r) ∧ Q r) (hk : ∀ r, Q r → Φ (K r)) : Φ (bd (Loop body s) K) := by
  obtain ⟨r, e1, hq⟩ := Loop_nat S N Q P h0 h he
  rw [e, e1]
  exact hk r hq
end
end Dn
/-
  From functions on plain values to functions on typed values. Conditions: none.
-/
set_option linter.unusedVariables false
namespace Dn
open Go
/-- a list's length, once -/
def lenN {R : Type} (l : List MV) (K : Nat → Option R) : Option R := K l.length
/-- element i of a list -/
def ix {α R : Type} (l : List α) (i : Int) (K : α → Option R) : Option R :=
  match (if 0 ≤ i then l[i.toNat]? else none) with | some x => K x | none => none
def tClone {α : Type} (bytes : Nat) (l : List α) : Option (List α) := if l.length * bytes ≤ 2 ^ 46 then some l else none
def tDelete {α : Type} (xs : List α) (i j : Int) : Option (List α) := if 0 ≤ i ∧ i ≤ j ∧ j ≤ (xs.length : Int) then some (xs.take i.toNat ++ xs.drop j.toNat) else none
def tInsert {α : Type} (bytes : Nat) (xs : List α) (i : Int) (ys : List α) : Option (List α) :=
  if 0 ≤ i ∧ i.toNat ≤ xs.length ∧ ys ≠ [] ∧ (xs.length + ys.length) * bytes ≤ 2 ^ 46 then some (xs.take i.toNat ++ ys ++ xs.drop i.toNat) else none
@[reducible] def encL {α : Type} (f : α → MV) (l : List α) : MV := .list (l.map f)
@[reducible] def encF {α : Type} (f : α → MV) (l : List α) : MV := .fresh (l.map f)

/-- the one gives just what the other gives, as a plain value -/
def Sm {A B : Type} (g : B → A) (x : Option A) (y : Option B) : Prop := x = y.map g
section
variable {A B A' B' α : Type} {g : B → A} {T : Option B}
theorem Sm.at {x x' : Option A} (e : x = x') (h : Sm g x' T) : Sm g x T := e ▸ h
theorem st_gA {l : List MV} {K : List MV → Option A} (h : Sm g (K l) T) : Sm g (gA (.agg l) K) T := h
theorem st_gB {x : Bool} {K : Bool → Option A} (h : Sm g (K x) T) : Sm g (gB (.b x) K) T := h
theorem st_gS {x : List UInt8} {K : List UInt8 → Option A} (h : Sm g (K x) T) : Sm g (gS (.s x) K) T := h
theorem st_gL {x : List MV} {K : List MV → Option A} (h : Sm g (K x) T) : Sm g (gL (.list x) K) T := h
theorem st_gH {x : Hash} {K : Hash → Option A} (h : Sm g (K x) T) : Sm g (gH (.h x) K) T := h
theorem st_gW {x : MV} {outs : List MV} {K : MV → List MV → Option A} (h : Sm g (K x outs) T) : Sm g (gW (.wback x outs) K) T := h
theorem st_gT {x : List MV} {K : List MV → Option A} (h : Sm g (K x) T) : Sm g (gT (.tup x) K) T := h
theorem st_gF {x : List MV} {K : List MV → Option A} (h : Sm g (K x) T) : Sm g (gF (.fresh x) K) T := h
theorem st_gP {x : List MV} {K : List MV → Option A} (h : Sm g (K x) T) : Sm g (gP (.rp x) K) T := h
theorem st_gFn {f : Nat} {x : List MV} {K : Nat → List MV → Option A} (h : Sm g (K f x) T) : Sm g (gFn (.func f x) K) T := h
theorem st_gRf {f : Nat} {x : List MV} {K : MV → Option A} (h : Sm g (K (.func f x)) T) : Sm g (gR (.func f x) K) T := h
theorem st_gRr {v : Value} {K : MV → Option A} (h : Sm g (K (.raw v)) T) : Sm g (gR (.raw v) K) T := h
theorem st_gI {k : IntKind} {n : Int} {K : Int → Option A} (h : Sm g (K n) T) : Sm g (gI k (.i k n) K) T := by simpa using h
theorem st_gC {m : MV} {r : List MV} {K : MV → List MV → Option A} (h : Sm g (K m r) T) : Sm g (gC (m :: r) K) T := h
theorem st_gN {K : Option A} (h : Sm g K T) : Sm g (gN [] K) T := h
theorem st_bd {x : Option A'} {y : Option B'} {f : B' → A'} {K : A' → Option A} {K' : B' → Option B} (h : Sm f x y) (hk : ∀ b, Sm g (K (f b)) (K' b)) : Sm g (bd x K) (bd y K') := by
  unfold Sm at h; subst h
  cases y with
  | none => rfl
  | some b => exact hk b
theorem st_if {p : Prop} [Decidable p] {X Y : Option A} {X' Y' : Option B} (h1 : Sm g X X') (h2 : Sm g Y Y') : Sm g (ifB (decide p) X Y) (if p then X' else Y') := by
  by_cases h : p <;> simpa [h] using (by assumption)
theorem st_ifb {c : Bool} {X Y : Option A} {X' Y' : Option B} (h1 : Sm g X X') (h2 : Sm g Y Y') : Sm g (ifB c X Y) (if c then X' else Y') := by
  cases c <;> simpa using (by assumption)
theorem st_chk {p : Prop} [Decidable p] {X : Option A} {X' : Option B} (h1 : Sm g X X') : Sm g (chk (decide p) X) (if p then X' else none) := by
  by_cases h : p
  · simpa [h] using h1
  · simp [h, chk, Sm]
theorem st_chkb {c : Bool} {X : Option A} {X' : Option B} (h1 : Sm g X X') : Sm g (chk c X) (if c then X' else none) := by
  cases c
  · simp [chk, Sm]
  · simpa using h1
theorem st_tt {c : Bool} {X : Option A} (hc : c = true) (h : Sm g X T) : Sm g (chk c X) T := by subst hc; exact h
theorem st_ifT {c : Bool} {X Y : Option A} (hc : c = true) (h : Sm g X T) : Sm g (ifB c X Y) T := by subst hc; exact h
theorem st_ifF {c : Bool} {X Y : Option A} (hc : c = false) (h : Sm g Y T) : Sm g (ifB c X Y) T := by subst hc; exact h
theorem st_len {l : List MV} {n : Nat} {K : Nat → Option A} (e : l.length = n) (h : Sm g (K n) T) : Sm g (lenN l K) T := by subst e; exact h
theorem st_idx {l : List MV} {M : List α} {f : α → MV} {i : Int} {K : MV → Option A} {K' : α → Option B} (e : l = M.map f) (h : ∀ y, Sm g (K (f y)) (K' y)) : Sm g (idx l i K) (ix M i K') := by
  subst e
  unfold idx idxO ix
  by_cases hi : 0 ≤ i
  · simp only [hi, if_true, List.getElem?_map]
    cases M[i.toNat]? with
    | none => rfl
    | some y => exact h y
  · simp only [hi, if_false]; rfl
theorem st_both {X : Option A} {T : Option B} (h : Sm g X T) : Sm g (both X X) T := by
  have e : both X X = X := by unfold both; rw [if_pos rfl]
  rw [e]; exact h
theorem st_same {C : Type} {x : Option C} {K : C → Option A} {K' : C → Option B} (h : ∀ b, Sm g (K b) (K' b)) : Sm g (bd x K) (bd x K') := by
  cases x with
  | none => rfl
  | some b => exact h b
theorem st_gFl {a : Nat} {K : Nat → Option A} (h : Sm g (K a) T) : Sm g (gFl (.raw (.float .f64 a)) K) T := h
theorem st_gCx {a b : Nat} {K : Nat → Nat → Option A} (h : Sm g (K a b) T) : Sm g (gCx (.raw (.complex .f64 a b)) K) T := h
def bysT {R : Type} (l : List Int) (K : List UInt8 → Option R) : Option R := if l.all isByte then K (l.map fun n => UInt8.ofNat n.toNat) else none
theorem bysK_map {R : Type} {M : List Int} : ∀ {K : List UInt8 → Option R}, bysK (M.map (MV.i .u8)) K = bysT M K := by
  induction M with
  | nil => intro K; rfl
  | cons n M ih =>
    intro K
    simp only [List.map_cons, bysK, byK, gI, decide_true, cond_true, ih]
    cases h : isByte n <;> simp [chk, bysT, h]
theorem st_bys {l : List MV} {M : List Int} {K : List UInt8 → Option A} {K' : List UInt8 → Option B} (e : l = M.map (MV.i .u8)) (h : ∀ b, Sm g (K b) (K' b)) : Sm g (bysK l K) (bysT M K') := by
  subst e
  rw [bysK_map]
  unfold bysT
  split
  · exact h _
  · rfl
theorem st_some {d : A} {a : B} (e : d = g a) : Sm g (some d) (some a) := by subst e; rfl
theorem st_none : Sm g none none := rfl
theorem wids_of {n : Nat} {l : List MV} {M : List α} {f : α → MV} (e : l = M.map f) (h : ∀ x, (f x).w = n) : wids n l = true := by
  subst e
  unfold wids
  rw [List.all_map, List.all_eq_true]
  intro x _
  simp [h x]
theorem iter_map {σ σ' ρ ρ' : Type} {e : σ' → σ} {f : ρ' → ρ} {K : σ → Option (Sum σ ρ)} {K' : σ' → Option (Sum σ' ρ')} (h : ∀ s, Sm (Sum.map e f) (K (e s)) (K' s)) (n : Nat) (s : σ') : iter K n (e s) = (iter K' n s).map f := by
  induction n generalizing s with
  | zero => rfl
  | succ n ih =>
    have := h s
    unfold Sm at this
    simp only [iter, this]
    cases K' s with
    | none => rfl
    | some x => cases x with
      | inl s' => exact ih s'
      | inr r => rfl
theorem Loop_none {σ ρ : Type} {K : σ → Option (Sum σ ρ)} {s : σ} (h : ∀ n, iter K n s = none) : Loop K s = none := by
  unfold Loop
  rw [dif_neg]
  rintro ⟨r, n, e⟩
  rw [h] at e; cases e
theorem st_loop {σ σ' ρ ρ' : Type} {K : σ → Option (Sum σ ρ)} {K' : σ' → Option (Sum σ' ρ')} {d0 : σ} {s0 : σ'} (e : σ' → σ) (f : ρ' → ρ) (e0 : d0 = e s0) (h : ∀ s, Sm (Sum.map e f) (K (e s)) (K' s)) : Sm f (Loop K d0) (Loop K' s0) := by
  subst e0
  unfold Sm
  by_cases hx : ∃ r n, iter K' n s0 = some r
  · obtain ⟨r, n, hn⟩ := hx
    rw [Loop_of_iter hn]
    have : iter K n (e s0) = some (f r) := by rw [iter_map h, hn]; rfl
    rw [Loop_of_iter this]; rfl
  · have h1 : ∀ n, iter K' n s0 = none := fun n => by
      cases hn : iter K' n s0 with
      | none => rfl
      | some r => exact absurd ⟨r, n, hn⟩ hx
    rw [Loop_none h1, Loop_none fun n => by rw [iter_map h, h1]; rfl]; rfl
theorem e_clone {size bytes : Nat} {f : α → MV} (hw : ∀ x, (f x).w = size) (l : List α) : Sm (encF f) (cloneF size bytes [.list (l.map f)]) (tClone bytes l) := by
  unfold Sm cloneF tClone
  simp only [wids_of (rfl : l.map f = l.map f) hw, Bool.true_and, List.length_map]
  by_cases h : l.length * bytes ≤ 2 ^ 46
  · rw [show Nat.ble (l.length * bytes) (2 ^ 46) = true from Nat.ble_eq_true_of_le h, if_pos h]; rfl
  · rw [show Nat.ble (l.length * bytes) (2 ^ 46) = false from by rw [Bool.eq_false_iff]; intro hb; exact h (Nat.le_of_ble_eq_true hb), if_neg h]; rfl
theorem e_delete {f : α → MV} (xs : List α) (i j : Int) : Sm (encF f) (deleteF [.fresh (xs.map f), .i .i64 i, .i .i64 j]) (tDelete xs i j) := by
  unfold Sm deleteF tDelete
  simp only [List.length_map]
  by_cases h1 : 0 ≤ i <;> by_cases h2 : i ≤ j <;> by_cases h3 : j ≤ (xs.length : Int) <;> simp [h1, h2, h3, encF]
theorem e_insert {bytes : Nat} {f : α → MV} (xs : List α) (i : Int) (ys : List α) : Sm (encF f) (insertF bytes [.fresh (xs.map f), .i .i64 i, .fresh (ys.map f)]) (tInsert bytes xs i ys) := by
  unfold Sm insertF tInsert
  simp only [List.length_map]
  have hb : ∀ a b : Nat, Nat.ble a b = decide (a ≤ b) := fun a b => by
    by_cases h : a ≤ b
    · rw [Nat.ble_eq_true_of_le h, decide_eq_true h]
    · rw [decide_eq_false h, Bool.eq_false_iff]; intro hh; exact h (Nat.le_of_ble_eq_true hh)
  rw [hb, hb]
  have he : (ys.map f).isEmpty = decide (ys = []) := by cases ys <;> simp
  rw [he]
  by_cases h1 : 0 ≤ i <;> by_cases h2 : i.toNat ≤ xs.length <;> by_cases h3 : ys = [] <;> by_cases h4 : (xs.length + ys.length) * bytes ≤ 2 ^ 46 <;> simp [h1, h2, h3, h4, encF]
end
/-- lists of arguments -/
abbrev lst0 (f : Option MV) : List MV → Option MV | [] => f | _ => none
abbrev lst1 (f : MV → Option MV) : List MV → Option MV | [a] => f a | _ => none
abbrev lst2 (f : MV → MV → Option MV) : List MV → Option MV | [a, b] => f a b | _ => none
abbrev lst3 (f : MV → MV → MV → Option MV) : List MV → Option MV | [a, b, c] => f a b c | _ => none
abbrev lst4 (f : MV → MV → MV → MV → Option MV) : List MV → Option MV | [a, b, c, d] => f a b c d | _ => none
abbrev lst5 (f : MV → MV → MV → MV → MV → Option MV) : List MV → Option MV | [a, b, c, d, e] => f a b c d e | _ => none
abbrev lst6 (f : MV → MV → MV → MV → MV → MV → Option MV) : List MV → Option MV | [a, b, c, d, e, h] => f a b c d e h | _ => none
abbrev lst7 (f : MV → MV → MV → MV → MV → MV → MV → Option MV) : List MV → Option MV | [a, b, c, d, e, h, i] => f a b c d e h i | _ => none
theorem lst0_of {f : Option MV} {B : List MV → Option MV} (h : B [] = f) {ms : List MV} {r : MV} (e : lst0 f ms = some r) : B ms = some r := by
  unfold lst0 at e; split at e
  · rw [h]; exact e
  · cases e
theorem lst1_of {f : MV → Option MV} {B : List MV → Option MV} (h : ∀ a, B [a] = f a) {ms : List MV} {r : MV} (e : lst1 f ms = some r) : B ms = some r := by
  unfold lst1 at e; split at e
  · rw [h]; exact e
  · cases e
theorem lst2_of {f : MV → MV → Option MV} {B : List MV → Option MV} (h : ∀ a b, B [a, b] = f a b) {ms : List MV} {r : MV} (e : lst2 f ms = some r) : B ms = some r := by
  unfold lst2 at e; split at e
  · rw [h]; exact e
  · cases e
theorem lst3_of {f : MV → MV → MV → Option MV} {B : List MV → Option MV} (h : ∀ a b c, B [a, b, c] = f a b c) {ms : List MV} {r : MV} (e : lst3 f ms = some r) : B ms = some r := by
  unfold lst3 at e; split at e
  · rw [h]; exact e
  · cases e
theorem lst4_of {f : MV → MV → MV → MV → Option MV} {B : List MV → Option MV} (h : ∀ a b c d, B [a, b, c, d] = f a b c d) {ms : List MV} {r : MV} (e : lst4 f ms = some r) : B ms = some r := by
  unfold lst4 at e; split at e
  · rw [h]; exact e
  · cases e
theorem lst5_of {f : MV → MV → MV → MV → MV → Option MV} {B : List MV → Option MV} (h : ∀ a b c d i, B [a, b, c, d, i] = f a b c d i) {ms : List MV} {r : MV} (e : lst5 f ms = some r) : B ms = some r := by
  unfold lst5 at e; split at e
  · rw [h]; exact e
  · cases e
theorem lst6_of {f : MV → MV → MV → MV → MV → MV → Option MV} {B : List MV → Option MV} (h : ∀ a b c d i j, B [a, b, c, d, i, j] = f a b c d i j) {ms : List MV} {r : MV} (e : lst6 f ms = some r) : B ms = some r := by
  unfold lst6 at e; split at e
  · rw [h]; exact e
  · cases e
theorem lst7_of {f : MV → MV → MV → MV → MV → MV → MV → Option MV} {B : List MV → Option MV} (h : ∀ a b c d i j k, B [a, b, c, d, i, j, k] = f a b c d i j k) {ms : List MV} {r : MV} (e : lst7 f ms = some r) : B ms = some r := by
  unfold lst7 at e; split at e
  · rw [h]; exact e
  · cases e
/-- a function of the program's, as a function of its arguments -/
theorem SoundG.fn {P : Program} {c c' : Ctx} {g : Nat → List MV → Option MV} {n : Nat} {fn : Func} {caps : List (List Kd)} {F : List MV → Option MV} (h : SoundG P c g) (hl : Like c c') (hgg : c'.g = g) (hti : TIok P c.ti) (heq : EqOK P c.ti) (hfk : ∀ t k, c.fk t = some k → P.underlying t = some (.float k)) (hmt : MapTys P c) (hmix : P.follows .mixedOrders = true)
    (hf : P.funcs[n]? = some fn) (hh : headB c' n fn caps = true) (hkey : ∀ f, c.key f = f) (hF : ∀ {ms r}, F ms = some r → bodyK c' caps Option.none fn ms = some r) : SoundG P c (addG n F g) := by
  have hb := SoundG.body h hl hgg hti heq hfk hmt hmix hf hh hkey
  refine h.add (fun f ms r hk hr => ?_)
  refine hb.all f ms r ?_
  unfold addG
  rw [hk]
  simp [hF hr]
end Dn
/-
  Reasoning about functions on typed values. Conditions: none.
-/
set_option linter.unusedVariables false
namespace Dn
open Go
section
variable {α R : Type}
theorem ix_nat {l : List α} {k : Nat} (h : k < l.length) (K : α → Option R) : ix l (k : Int) K = K l[k] := by
  simp [ix, h]
theorem ix_int {l : List α} {i : Int} (h0 : 0 ≤ i) (h : i.toNat < l.length) (K : α → Option R) : ix l i K = K l[i.toNat] := by
  simp [ix, h, h0]
theorem ix_zero {l : List α} (h : 0 < l.length) (K : α → Option R) : ix l 0 K = K l[0] := by simp [ix, h]
theorem if_t {c : Prop} [Decidable c] (h : c) (x y : α) : (if c then x else y) = x := if_pos h
theorem bd_some' {A : Type} {x : Option A} {a : A} (h : x = some a) (K : A → Option R) : bd x K = K a := by rw [h]; rfl
theorem bd_if {A : Type} (c : Prop) [Decidable c] (x y : Option A) (K : A → Option R) : bd (if c then x else y) K = if c then bd x K else bd y K := by split <;> rfl
@[simp] theorem bd_id {A : Type} (x : Option A) : bd x (fun a => some a) = x := by cases x <;> rfl
theorem bd_ix {A : Type} (l : List α) (i : Int) (k : α → Option A) (K : A → Option R) : bd (ix l i k) K = ix l i fun a => bd (k a) K := by
  unfold ix; split <;> rfl
theorem bd_bd {A B : Type} (x : Option A) (k : A → Option B) (K : B → Option R) : bd (bd x k) K = bd x fun a => bd (k a) K := by cases x <;> rfl
end
/-- it gives something that .. -/
def Gives {A : Type} (x : Option A) (Q : A → Prop) : Prop := ∃ a, x = some a ∧ Q a
section
variable {A B α σ ρ : Type}
theorem Gives.mk {a : A} {Q : A → Prop} (h : Q a) : Gives (some a) Q := ⟨a, rfl, h⟩
theorem Gives.of {x : Option A} {a : A} {Q : A → Prop} (e : x = some a) (h : Q a) : Gives x Q := ⟨a, e, h⟩
theorem Gives.bd {x : Option A} {K : A → Option B} {P : A → Prop} {Q : B → Prop} (h : Gives x P) (hk : ∀ a, P a → Gives (K a) Q) : Gives (bd x K) Q := by
  obtain ⟨a, rfl, hp⟩ := h; exact hk a hp
theorem Gives.ite {c : Prop} [Decidable c] {x y : Option A} {Q : A → Prop} (h1 : c → Gives x Q) (h2 : ¬ c → Gives y Q) : Gives (if c then x else y) Q := by
  split
  · exact h1 ‹_›
  · exact h2 ‹_›
theorem Gives.req {c : Prop} [Decidable c] {x : Option A} {Q : A → Prop} (h : c) (h1 : Gives x Q) : Gives (if c then x else none) Q := by rw [if_pos h]; exact h1
theorem Gives.imp {x : Option A} {P Q : A → Prop} (h : Gives x P) (hpq : ∀ a, P a → Q a) : Gives x Q := by
  obtain ⟨a, e, hp⟩ := h; exact ⟨a, e, hpq a hp⟩
theorem Gives.ix {l : List α} {k : Nat} {K : α → Option A} {Q : A → Prop} (h : k < l.length) (hk : Gives (K l[k]) Q) : Gives (ix l (k : Int) K) Q := by rw [ix_nat h]; exact hk
theorem Gives.eq {x : Option A} {a : A} (h : Gives x (· = a)) : x = some a := by obtain ⟨b, e, rfl⟩ := h; exact e

variable {body : σ → Option (Sum σ ρ)}
/-- a loop, by what holds at its head and what falls -/
theorem Gives.loop (I : σ → Prop) (μ : σ → Nat) {Q : ρ → Prop} {s : σ} (hs : I s) (h : ∀ s, I s → Gives (body s) fun x => match x with | .inl s' => I s' ∧ μ s' < μ s | .inr r => Q r) : Gives (Loop body s) Q := by
  refine Loop_inv I μ Q (fun s hs => ?_) hs
  obtain ⟨x, e, hx⟩ := h s hs
  cases x with
  | inl s' => exact .inl ⟨s', e, hx⟩
  | inr r => exact .inr ⟨r, e, hx⟩
/-- a loop whose states are known: the k-th, up to the n-th, at which it ends -/
theorem Gives.count (S : Nat → σ) (n : Nat) {Q : ρ → Prop} (P : Nat → Prop) {s : σ} (e : s = S 0) (h0 : P 0) (h : ∀ k, k < n → P k → Gives (body (S k)) fun x => match x with | .inl s' => s' = S (k + 1) ∧ P (k + 1) | .inr r => Q r)
    (he : P n → Gives (body (S n)) fun x => match x with | .inl _ => False | .inr r => Q r) : Gives (Loop body s) Q := by
  subst e
  refine Loop_nat S n Q P h0 (fun k hk hp => ?_) (fun hp => ?_)
  · obtain ⟨x, e, hx⟩ := h k hk hp
    cases x with
    | inl s' => obtain ⟨rfl, hx⟩ := hx; exact .inl ⟨e, hx⟩
    | inr r => exact .inr ⟨r, e, hx⟩
  · obtain ⟨x, e, hx⟩ := he hp
    cases x with
    | inl s' => exact hx.elim
    | inr r => exact ⟨r, e, hx⟩
/-- a list, looked through from its head on: state b, element a; or it ends early -/
def scan {α β ρ : Type} (f : Nat → β → α → Sum β ρ) (fin : β → ρ) : List α → Nat → β → ρ
  | [], _, b => fin b
  | a :: l, k, b => match f k b a with
    | .inl b' => scan f fin l (k + 1) b'
    | .inr r => r
/-- a loop that looks through a list -/
theorem Loop_scan {β : Type} (L : List α) (S : β → Int → σ) (I : Nat → β → Prop) (f : Nat → β → α → Sum β ρ) (fin : β → ρ) {b0 : β} {s : σ} (e0 : s = S b0 0) (h0 : I 0 b0)
    (h : ∀ k b (hk : k < L.length), I k b → body (S b (k : Int)) = some (match f k b L[k] with | .inl b' => .inl (S b' ((k + 1 : Nat) : Int)) | .inr r => .inr r) ∧ ∀ b', f k b L[k] = .inl b' → I (k + 1) b')
    (he : ∀ b, I L.length b → body (S b (L.length : Int)) = some (.inr (fin b))) : Loop body s = some (scan f fin L 0 b0) := by
  subst e0
  have key : ∀ d k b, k + d = L.length → I k b → ∃ n, iter body n (S b (k : Int)) = some (scan f fin (L.drop k) k b) := by
    intro d
    induction d with
    | zero =>
      intro k b hk hi
      have : k = L.length := by omega
      subst this
      exact ⟨1, by simp [iter, he b hi, scan]⟩
    | succ d ih =>
      intro k b hk hi
      have hkl : k < L.length := by omega
      obtain ⟨h1, h2⟩ := h k b hkl hi
      rw [List.drop_eq_getElem_cons hkl]
      simp only [scan]
      cases hf : f k b L[k] with
      | inl b' =>
        obtain ⟨n, hn⟩ := ih (k + 1) b' (by omega) (h2 b' hf)
        refine ⟨n + 1, ?_⟩
        simp only [iter, h1, hf]
        exact hn
      | inr r => exact ⟨1, by simp only [iter, h1, hf]⟩
  obtain ⟨n, hn⟩ := key L.length 0 b0 (by omega) h0
  rw [List.drop_zero] at hn
  exact Loop_of_iter hn
end
theorem wrap64 {x : Int} (h1 : -9223372036854775808 ≤ x) (h2 : x ≤ 9223372036854775807) : IntKind.wrap .i64 x = x := wrap_id h1 h2
/-- numbers of a kind, and of no more than a slice can be long -/
def InI (n : Int) : Prop := -9223372036854775808 ≤ n ∧ n ≤ 9223372036854775807
end Dn
/-
  Functions of the library, on typed values. Conditions: none.
-/
set_option linter.unusedVariables false
namespace Dn
open Go
def cmp3 (x y : Int) : Int := if x < y then -1 else if y < x then 1 else 0
/-- so many stand ahead of a number -/
def lbK {α : Type} (key : α → Int) (L : List α) (s : Int) : Nat := L.countP (fun e => decide (key e < s))
def hasK {α : Type} (key : α → Int) (L : List α) (s : Int) : Bool := L.any fun e => decide (key e = s)
def IncK {α : Type} (key : α → Int) (L : List α) : Prop := L.Pairwise fun a b => key a < key b
section
variable {α τ : Type} {key : α → Int}
theorem lbK_eq {L : List α} {s : Int} {p : Nat} (hp : p ≤ L.length) (h1 : ∀ k (hk : k < L.length), k < p → key L[k] < s) (h2 : ∀ k (hk : k < L.length), p ≤ k → s ≤ key L[k]) : lbK key L s = p := by
  have h3 : (L.take p).countP (fun e => decide (key e < s)) = (L.take p).length := by
    rw [List.countP_eq_length]
    intro a ha
    obtain ⟨k, hk, rfl⟩ := List.mem_iff_getElem.1 ha
    have hk2 : k < p := by rw [List.length_take] at hk; omega
    rw [List.getElem_take]
    exact decide_eq_true (h1 k (by omega) hk2)
  have h4 : (L.drop p).countP (fun e => decide (key e < s)) = 0 := by
    rw [List.countP_eq_zero]
    intro a ha
    obtain ⟨k, hk, rfl⟩ := List.mem_iff_getElem.1 ha
    rw [List.length_drop] at hk
    rw [List.getElem_drop]
    have := h2 (p + k) (by omega) (by omega)
    simp; omega
  have h5 : lbK key L s = (L.take p ++ L.drop p).countP (fun e => decide (key e < s)) := by rw [List.take_append_drop]; rfl
  rw [h5, List.countP_append, h3, h4, List.length_take]
  omega
theorem IncK.lt {L : List α} (hs : IncK key L) {i j : Nat} (hj : j < L.length) (h : i < j) : key (L[i]'(by omega)) < key L[j] := List.pairwise_iff_getElem.1 hs i j (by omega) hj h
theorem IncK.le {L : List α} (hs : IncK key L) {i j : Nat} (hj : j < L.length) (h : i ≤ j) : key (L[i]'(by omega)) ≤ key L[j] := by
  rcases Nat.lt_or_eq_of_le h with h | h
  · exact Int.le_of_lt (hs.lt hj h)
  · subst h; exact Int.le_refl _
theorem lbK_le (L : List α) (s : Int) : lbK key L s ≤ L.length := List.countP_le_length
/-- what stands where a number is, or would be -/
theorem IncK.lb {L : List α} (hs : IncK key L) (s : Int) : (∀ k (hk : k < L.length), k < lbK key L s → key L[k] < s) ∧ (∀ k (hk : k < L.length), lbK key L s ≤ k → s ≤ key L[k]) := by
  have : ∃ p, p ≤ L.length ∧ (∀ k (hk : k < L.length), k < p → key L[k] < s) ∧ (∀ k (hk : k < L.length), p ≤ k → s ≤ key L[k]) := by
    induction L with
    | nil => exact ⟨0, Nat.le_refl _, fun k hk => by simp at hk, fun k hk => by simp at hk⟩
    | cons a l ih =>
      have hs' := List.pairwise_cons.1 hs
      by_cases ha : key a < s
      · obtain ⟨p, h1, h2, h3⟩ := ih hs'.2
        refine ⟨p + 1, by simp; omega, fun k hk hkp => ?_, fun k hk hkp => ?_⟩
        · cases k with
          | zero => exact ha
          | succ k => exact h2 k (by simpa using hk) (by omega)
        · cases k with
          | zero => omega
          | succ k => exact h3 k (by simpa using hk) (by omega)
      · refine ⟨0, Nat.zero_le _, fun k hk hkp => by omega, fun k hk _ => ?_⟩
        cases k with
        | zero => simp; omega
        | succ k =>
          have := hs'.1 (l[k]'(by simpa using hk)) (List.getElem_mem _)
          simp only [List.getElem_cons_succ]; omega
  obtain ⟨p, h1, h2, h3⟩ := this
  rw [lbK_eq h1 h2 h3]
  exact ⟨h2, h3⟩
theorem IncK.has {L : List α} (hs : IncK key L) (s : Int) : hasK key L s = true ↔ ∃ h : lbK key L s < L.length, key L[lbK key L s] = s := by
  obtain ⟨h1, h2⟩ := hs.lb s
  unfold hasK
  rw [List.any_eq_true]
  constructor
  · rintro ⟨x, hx, he⟩
    obtain ⟨k, hk, rfl⟩ := List.mem_iff_getElem.1 hx
    have he : key L[k] = s := by simpa using he
    have hge : lbK key L s ≤ k := by
      refine Nat.le_of_not_lt fun hlt => ?_
      have := h1 k hk hlt; omega
    have hl : lbK key L s < L.length := by omega
    refine ⟨hl, ?_⟩
    have := h2 _ hl (Nat.le_refl _)
    have := hs.le hk hge
    omega
  · rintro ⟨h, he⟩
    exact ⟨_, List.getElem_mem h, decide_eq_true he⟩
theorem hasK_iff {L : List α} {s : Int} : hasK key L s = true ↔ ∃ x ∈ L, key x = s := by simp [hasK]
noncomputable def bsL (x : List α) (target : τ) (cmp : α → τ → Option Int) (st : Int × Int) : Option ((Int × Int) ⊕ Int) :=
  if st.1 < st.2 then
  if (0 : Int) ≤ 1 then
  ix x (IntKind.wrap .i64 (Int.fdiv (IntKind.wrap .u64 (IntKind.wrap .i64 (st.1 + st.2))) (2 ^ min (Int.toNat 1) (IntKind.bits .u64)))) fun y =>
  bd (cmp y target) fun rA =>
  bd (
    if rA < 0 then
    some (IntKind.wrap .i64 ((IntKind.wrap .i64 (Int.fdiv (IntKind.wrap .u64 (IntKind.wrap .i64 (st.1 + st.2))) (2 ^ min (Int.toNat 1) (IntKind.bits .u64)))) + 1), st.2)
    else
    some (st.1, IntKind.wrap .i64 (Int.fdiv (IntKind.wrap .u64 (IntKind.wrap .i64 (st.1 + st.2))) (2 ^ min (Int.toNat 1) (IntKind.bits .u64)))) : Option (Int × Int)) fun w1 =>
  some (.inl (w1.1, w1.2))
  else none
  else
  some (.inr st.1)
noncomputable def bsearch (x : List α) (target : τ) (cmp : α → τ → Option Int) : Option (Int × Bool) :=
  bd (Loop (bsL x target cmp) (0, (x.length : Int))) fun w =>
  bd (
    if w < (x.length : Int) then
    ix x w fun y1 =>
    bd (cmp y1 target) fun rA1 =>
    some (w, decide (rA1 = 0))
    else
    some (w, false) : Option (Int × Bool)) fun w2 =>
  some (w2.1, w2.2)
/-- a search in what is in order -/
theorem bsearch_eq {L : List α} {s : Int} {cmp : α → Int → Option Int} (hs : IncK key L) (hl : L.length < 2 ^ 60) (hc : ∀ a, cmp a s = some (cmp3 (key a) s)) : bsearch L s cmp = some ((lbK key L s : Int), hasK key L s) := by
  obtain ⟨hb1, hb2⟩ := hs.lb s
  have hle := lbK_le (key := key) L s
  have hloop : Loop (bsL L s cmp) (0, (L.length : Int)) = some (lbK key L s : Int) := by
    refine Gives.eq (Gives.loop (fun st => ∃ i j : Nat, st = ((i : Int), (j : Int)) ∧ i ≤ lbK key L s ∧ lbK key L s ≤ j ∧ j ≤ L.length) (fun st => (st.2 - st.1).toNat) ⟨0, L.length, rfl, Nat.zero_le _, hle, Nat.le_refl _⟩ ?_)
    rintro st ⟨i, j, rfl, hi, hj, hjl⟩
    unfold bsL
    by_cases hlt : i < j
    · have hm : (i + j) / 2 < L.length := by omega
      simp only [show ((i : Int) < (j : Int)) by omega, if_true, show ((0 : Int) ≤ 1) by decide, mid_eq (by omega : i + j < 2 ^ 62), ix_nat hm, hc, bd_s]
      by_cases hlb : (i + j) / 2 < lbK key L s
      · have hk := hb1 _ hm hlb
        have : cmp3 (key L[(i + j) / 2]) s = -1 := by simp [cmp3, hk]
        simp only [this, show ((-1 : Int) < 0) by decide, if_true, bd_s]
        rw [wrap64 (by omega) (by omega)]
        exact .mk ⟨⟨(i + j) / 2 + 1, j, by simp, by omega, hj, hjl⟩, by omega⟩
      · have hk := hb2 _ hm (by omega)
        have : ¬ cmp3 (key L[(i + j) / 2]) s < 0 := by unfold cmp3; rw [if_neg (by omega)]; split <;> omega
        simp only [this, if_false, bd_s]
        exact .mk ⟨⟨i, (i + j) / 2, rfl, hi, by omega, by omega⟩, by omega⟩
    · simp only [show ¬ ((i : Int) < (j : Int)) by omega, if_false]
      exact .mk (by show (i : Int) = (lbK key L s : Int); omega)
  unfold bsearch
  rw [hloop]
  simp only [bd_s]
  by_cases hlt : lbK key L s < L.length
  · simp only [show ((lbK key L s : Int) < (L.length : Int)) by omega, if_true, ix_nat hlt, hc, bd_s]
    have h3 := hb2 _ hlt (Nat.le_refl _)
    have : decide (cmp3 (key L[lbK key L s]) s = 0) = hasK key L s := by
      unfold cmp3
      rw [if_neg (by omega)]
      by_cases he : key L[lbK key L s] = s
      · rw [if_neg (by omega), decide_eq_true rfl, (hs.has s).2 ⟨hlt, he⟩]
      · rw [if_pos (by omega), decide_eq_false (by decide)]
        symm; rw [Bool.eq_false_iff]
        intro hh
        obtain ⟨_, hh⟩ := (hs.has s).1 hh
        exact he hh
    rw [this]
  · simp only [show ¬ ((lbK key L s : Int) < (L.length : Int)) by omega, if_false, bd_s]
    have : hasK key L s = false := by
      rw [Bool.eq_false_iff]
      intro hh
      obtain ⟨hh, _⟩ := (hs.has s).1 hh
      exact hlt hh
    rw [this]
/-- a list with one more put in its place -/
def insK (key : α → Int) (L : List α) (a : α) : List α := L.take (lbK key L (key a)) ++ [a] ++ L.drop (lbK key L (key a))
theorem tInsert_lb {L : List α} {a : α} {by' : Nat} (hb : (L.length + 1) * by' ≤ 2 ^ 46) : tInsert by' L (lbK key L (key a) : Int) [a] = some (insK key L a) := by
  unfold tInsert
  rw [if_pos]
  · rfl
  · exact ⟨by omega, by simpa using lbK_le L _, by simp, by simpa using hb⟩
theorem tClone_eq {L : List α} {by' : Nat} (h : L.length * by' ≤ 2 ^ 46) : tClone by' L = some L := if_pos h
/-- where something is like an equality, looked for place by place -/
noncomputable def eqL [DecidableEq α] (a b : List α) (st : Int) : Option (Int ⊕ (Unit ⊕ Bool)) :=
  if st < (a.length : Int) then
  ix a st fun y =>
  ix b st fun y1 =>
  if !decide (y = y1) then
  some (.inr (.inr false))
  else
  some (.inl (IntKind.wrap .i64 (st + 1)))
  else
  some (.inr (.inl ()))
theorem eqL_loop [DecidableEq α] {a b : List α} (hl : a.length = b.length) (hn : a.length < 2 ^ 60) : ∃ r, Loop (eqL a b) 0 = some r ∧ (r = .inl () ∧ a = b ∨ r = .inr false ∧ a ≠ b) := by
  refine Gives.count (fun k => (k : Int)) a.length (fun k => a.take k = b.take k) rfl rfl (fun k hk hp => ?_) (fun hp => ?_)
  · have hkb : k < b.length := by omega
    unfold eqL
    simp only [show ((k : Int) < (a.length : Int)) by omega, if_true, ix_nat hk, ix_nat hkb]
    by_cases he : a[k] = b[k]
    · simp only [he, decide_true, Bool.not_true, Bool.false_eq_true, if_false]
      rw [wrap64 (by omega) (by omega)]
      refine .mk ⟨by omega, ?_⟩
      rw [List.take_add_one, List.take_add_one, hp, List.getElem?_eq_getElem hk, List.getElem?_eq_getElem hkb, he]
    · simp only [he, decide_false, Bool.not_false, if_true]
      exact .mk (.inr ⟨rfl, fun hab => he (by subst hab; rfl)⟩)
  · unfold eqL
    simp only [show ¬ ((a.length : Int) < (a.length : Int)) by omega, if_false]
    refine .mk (.inl ⟨rfl, ?_⟩)
    have h1 : a.take a.length = a := List.take_length
    have h2 : b.take a.length = b := by rw [hl]; exact List.take_length
    rw [← h1, hp, h2]
end
section
variable {α ρ : Type}
theorem map_take_succ {β : Type} (f : α → β) {L : List α} {k : Nat} (hk : k < L.length) : (L.take (k + 1)).map f = (L.take k).map f ++ [f L[k]] := by
  rw [← List.take_append_getElem hk, List.map_append]; rfl
theorem take_succ {L : List α} {k : Nat} (hk : k < L.length) : L.take (k + 1) = L.take k ++ [L[k]] := (List.take_append_getElem hk).symm
/-- a loop that looks whether all is well, and leaves at the first that is not -/
theorem Loop_all {body : Int → Option (Int ⊕ (Unit ⊕ ρ))} (n : Nat) (p : Nat → Prop) (c : ρ) (h : ∀ k, k < n → (∀ j, j < k → p j) → (p k → body (k : Int) = some (.inl ((k + 1 : Nat) : Int))) ∧ (¬ p k → body (k : Int) = some (.inr (.inr c))))
    (he : body (n : Int) = some (.inr (.inl ()))) : Gives (Loop body 0) fun r => (r = .inl () ∧ ∀ k, k < n → p k) ∨ (r = .inr c ∧ ∃ k, k < n ∧ ¬ p k) := by
  refine Gives.count (fun k => (k : Int)) n (fun k => ∀ j, j < k → p j) rfl (fun j hj => by omega) (fun k hk hp => ?_) (fun hp => ?_)
  · by_cases hpk : p k
    · refine .of ((h k hk hp).1 hpk) ⟨rfl, fun j hj => ?_⟩
      by_cases hjk : j = k
      · subst hjk; exact hpk
      · exact hp j (by omega)
    · exact .of ((h k hk hp).2 hpk) (.inr ⟨rfl, k, hk, hpk⟩)
  · exact .of he (.inl ⟨rfl, hp⟩)
/-- a loop that looks whether something is there -/
theorem Loop_any {ρ' : Type} {body : Bool × Int → Option ((Bool × Int) ⊕ ρ')} (n : Nat) (p : Nat → Bool) (fin : Bool → ρ') (h : ∀ k b, k < n → body (b, (k : Int)) = some (.inl (b || p k, ((k + 1 : Nat) : Int)))) (he : ∀ b, body (b, (n : Int)) = some (.inr (fin b))) : Loop body (false, 0) = some (fin ((List.range n).any p)) := by
  refine Gives.eq (Gives.count (fun k => ((List.range k).any p, (k : Int))) n (fun _ => True) (by simp) trivial (fun k hk _ => ?_) (fun _ => ?_))
  · refine .of (h k _ hk) ⟨?_, trivial⟩
    rw [List.range_succ, List.any_append]; simp
  · exact .of (he _) rfl
theorem any_range {L : List α} {q : α → Bool} : (List.range L.length).any (fun k => (L[k]?).any q) = L.any q := by
  rw [Bool.eq_iff_iff, List.any_eq_true, List.any_eq_true]
  constructor
  · rintro ⟨k, hk, h⟩
    rw [List.mem_range] at hk
    rw [List.getElem?_eq_getElem hk] at h
    exact ⟨_, List.getElem_mem hk, h⟩
  · rintro ⟨a, ha, h⟩
    obtain ⟨k, hk, rfl⟩ := List.mem_iff_getElem.1 ha
    refine ⟨k, List.mem_range.2 hk, ?_⟩
    rw [List.getElem?_eq_getElem hk]; exact h
theorem Loop_same [DecidableEq α] {a b : List α} {body : Int → Option (Int ⊕ (Unit ⊕ Bool))} (hl : a.length = b.length) (h : ∀ k (ha : k < a.length) (hb : k < b.length), body (k : Int) = some (if a[k] = b[k] then .inl ((k + 1 : Nat) : Int) else .inr (.inr false)))
    (he : body (a.length : Int) = some (.inr (.inl ()))) : Loop body 0 = some (if a = b then .inl () else .inr false) := by
  obtain ⟨r, e, hr⟩ := Loop_all (body := body) a.length (fun k => a[k]? = b[k]?) false (fun k hk _ => by
    have hkb : k < b.length := by omega
    rw [List.getElem?_eq_getElem hk, List.getElem?_eq_getElem hkb, h k hk hkb]
    constructor
    · intro hh; rw [if_pos (by simpa using hh)]
    · intro hh; rw [if_neg (by simpa using hh)]) he
  rw [e]
  rcases hr with ⟨rfl, hall⟩ | ⟨rfl, k, hk, hne⟩
  · rw [if_pos]
    refine List.ext_getElem? fun k => ?_
    by_cases hk : k < a.length
    · exact hall k hk
    · rw [List.getElem?_eq_none (by omega), List.getElem?_eq_none (by omega)]
  · rw [if_neg]
    intro hab; subst hab; exact hne rfl
end
end Dn
/-
  Maps as lists of entries: what is there behind a store. Conditions: none.
-/
set_option linter.unusedVariables false
namespace Dn
open Go
def mkeys (es : List MV) : List (List MV) := es.map mkey
theorem midx_le (es : List MV) (ks : List MV) : midx es ks ≤ es.length := by
  rw [midx_fidx]; have := fidx_le (es.map mkey) ks; simpa using this
theorem fidx_congr_append {kss : List (List MV)} {ks ks' : List MV} (h : mvsEq ks' ks = false) : fidx (kss ++ [ks']) ks = if fidx kss ks < kss.length then fidx kss ks else kss.length + 1 := by
  induction kss with
  | nil => simp [fidx, h]
  | cons q r ih =>
    simp only [List.cons_append, fidx, List.length_cons]
    rcases Bool.eq_false_or_eq_true (mvsEq q ks) with hm | hm
    · simp [hm]
    · have := fidx_le r ks
      simp only [hm, cond_false]
      by_cases hl : fidx r ks < r.length
      · simp [hl, ih]
      · simp [hl, ih]
theorem fidx_append_self {kss : List (List MV)} {ks : List MV} (hr : mvsEq ks ks = true) (h : fidx kss ks = kss.length) : fidx (kss ++ [ks]) ks = kss.length := by
  induction kss with
  | nil => simp [fidx, hr]
  | cons q r ih =>
    simp only [List.cons_append, fidx, List.length_cons] at h ⊢
    cases hm : mvsEq q ks with
    | true => simp [hm] at h
    | false =>
      simp only [hm, cond_false] at h ⊢
      rw [ih (by omega)]
theorem fidx_hit {kss : List (List MV)} {ks : List MV} (h : fidx kss ks < kss.length) : kss[fidx kss ks]? = some ks := by
  obtain ⟨q, hq⟩ : ∃ q, kss[fidx kss ks]? = some q := ⟨_, List.getElem?_eq_getElem h⟩
  rw [hq, fidx_get hq]
theorem mkey_tup (ks : List MV) (v : MV) : mkey (.tup [.agg ks, v]) = ks := rfl
theorem mval_tup (ks : List MV) (v : MV) : mval (.tup [.agg ks, v]) = v := rfl
/-- a map with something written -/
def mput (es ks : List MV) (z v : MV) : List MV := mset (ment es ks z) (midx es ks) v
theorem mput_keys {es ks : List MV} {z v : MV} : (mput es ks z v).map mkey = if midx es ks < es.length then es.map mkey else es.map mkey ++ [ks] := by
  have hle := midx_le es ks
  unfold mput ment
  rw [nbeq]
  by_cases h : midx es ks = es.length
  · simp only [h, decide_true, cond_true]
    unfold mset
    simp [mkey_tup]
  · have hlt : midx es ks < es.length := by omega
    simp only [h, decide_false, cond_false, hlt, if_true]
    unfold mset
    rw [List.getElem?_eq_getElem hlt]
    simp only
    apply List.ext_getElem?
    intro i
    rw [List.getElem?_map, List.getElem?_map, List.getElem?_set]
    by_cases hi : midx es ks = i
    · subst hi; simp [hlt, mkey_tup]
    · simp [hi]
theorem mput_at {es ks : List MV} {z v : MV} : (mput es ks z v)[midx es ks]? = some (.tup [.agg ks, v]) := by
  have hle := midx_le es ks
  unfold mput ment
  rw [nbeq]
  by_cases h : midx es ks = es.length
  · simp only [h, decide_true, cond_true]
    unfold mset
    simp [mkey_tup]
  · have hlt : midx es ks < es.length := by omega
    simp only [h, decide_false, cond_false]
    unfold mset
    rw [List.getElem?_eq_getElem hlt]
    have hk : mkey es[midx es ks] = ks := by
      have h1 : (es.map mkey)[fidx (es.map mkey) ks]? = some (mkey es[midx es ks]) := by
        rw [← midx_fidx, List.getElem?_map, List.getElem?_eq_getElem hlt]; rfl
      exact fidx_get h1
    simp [hlt, hk]
theorem mput_other {es ks : List MV} {z v : MV} {i : Nat} (hi : i < es.length) (hne : i ≠ midx es ks) : (mput es ks z v)[i]? = es[i]? := by
  have hle := midx_le es ks
  unfold mput ment
  rw [nbeq]
  by_cases h : midx es ks = es.length
  · simp only [h, decide_true, cond_true]
    unfold mset
    simp only [List.getElem?_append_right (Nat.le_refl _), Nat.sub_self, List.getElem?_cons_zero]
    rw [List.getElem?_set_ne (by omega), List.getElem?_append_left hi]
  · have hlt : midx es ks < es.length := by omega
    simp only [h, decide_false, cond_false]
    unfold mset
    rw [List.getElem?_eq_getElem hlt]
    simp only
    rw [List.getElem?_set_ne (fun e => hne e.symm)]
theorem mput_len {es ks : List MV} {z v : MV} : (mput es ks z v).length = if midx es ks < es.length then es.length else es.length + 1 := by
  have h : ((mput es ks z v).map mkey).length = _ := congrArg List.length mput_keys
  rw [List.length_map] at h
  rw [h]; split <;> simp
/-- what a key has -/
def mget (es ks : List MV) : Option MV := (es[midx es ks]?).map mval
theorem mgetI_eq (es ks : List MV) : mgetI es ks = match mget es ks with | some v => asI v | none => 0 := by
  unfold mgetI mget; cases es[midx es ks]? <;> rfl
theorem mgetB_eq (es ks : List MV) : mgetB es ks = match mget es ks with | some v => asB v | none => false := by
  unfold mgetB mget; cases es[midx es ks]? <;> rfl
theorem mget_put_same {es ks : List MV} {z v : MV} (hr : mvsEq ks ks = true) : mget (mput es ks z v) ks = some v := by
  have hle := midx_le es ks
  have : midx (mput es ks z v) ks = midx es ks := by
    rw [midx_fidx, mput_keys, midx_fidx]
    split
    · rfl
    · rename_i h
      have h1 := fidx_le (es.map mkey) ks
      simp only [List.length_map] at h1 ⊢
      have h2 : fidx (es.map mkey) ks = (es.map mkey).length := by simp; omega
      rw [fidx_append_self hr h2, h2]
  unfold mget
  rw [this, mput_at]; rfl
theorem mget_put_other {es ks ks' : List MV} {z v : MV} (hne : mvsEq ks ks' = false) : mget (mput es ks z v) ks' = mget es ks' := by
  unfold mget
  have hle' := midx_le es ks'
  have hle := midx_le es ks
  have hix : midx (mput es ks z v) ks' = if midx es ks < es.length then midx es ks' else if midx es ks' < es.length then midx es ks' else es.length + 1 := by
    rw [midx_fidx, mput_keys]
    split
    · rw [midx_fidx]
    · rw [fidx_congr_append hne, ← midx_fidx]; simp
  by_cases hlt : midx es ks' < es.length
  · have hm : midx (mput es ks z v) ks' = midx es ks' := by rw [hix]; simp [hlt]
    have hne2 : midx es ks' ≠ midx es ks := by
      intro he
      have h1 := fidx_hit (kss := es.map mkey) (ks := ks') (by rw [← midx_fidx]; simpa using hlt)
      have h2 := fidx_hit (kss := es.map mkey) (ks := ks) (by rw [← midx_fidx, ← he]; simpa using hlt)
      rw [← midx_fidx, he, midx_fidx, h2] at h1
      cases h1
      have hq : mvsEq ks ks = true := by
        have := hlt
        rw [he] at this
        -- the entry is found by its key
        have h3 : ∀ (l : List (List MV)), fidx l ks < l.length → ∃ q, mvsEq q ks = true := by
          intro l
          induction l with
          | nil => intro h; simp [fidx] at h
          | cons q r ih =>
            intro h
            simp only [fidx] at h
            cases hm : mvsEq q ks with
            | true => exact ⟨q, hm⟩
            | false => simp only [hm, cond_false, List.length_cons] at h; exact ih (by omega)
        obtain ⟨q, hq⟩ := h3 (es.map mkey) (by rw [← midx_fidx]; simpa using this)
        have := mvsEq_of hq
        subst this
        exact hq
      rw [hq] at hne; cases hne
    rw [hm, mput_other hlt hne2]
  · have hnone : es[midx es ks']? = none := by rw [List.getElem?_eq_none_iff]; omega
    rw [hnone]
    have hlen := mput_len (es := es) (ks := ks) (z := z) (v := v)
    have : (mput es ks z v)[midx (mput es ks z v) ks']? = none := by
      rw [List.getElem?_eq_none_iff, hix, hlen]
      repeat' split
      all_goals omega
    rw [this]
end Dn
/-
  Runs with a bound on their rounds. Conditions: none.
-/
set_option linter.unusedVariables false
namespace Dn
open Go
def LoopC {σ R : Type} (n : Nat) (body : σ → Option (Sum σ R)) (s : σ) : Option R := iter body n s
/-- what the one gives, the other gives -/
def Le {A : Type} (x y : Option A) : Prop := ∀ a, x = some a → y = some a
section
variable {A B σ ρ α : Type}
theorem Le.rfl' (x : Option A) : Le x x := fun _ h => h
theorem Le.bd {x x' : Option A} {K K' : A → Option B} (h : Le x x') (hk : ∀ a, Le (K a) (K' a)) : Le (bd x K) (bd x' K') := by
  intro b hb
  cases hx : x with
  | none => rw [hx] at hb; cases hb
  | some a => rw [hx] at hb; rw [h a hx]; exact hk a b hb
theorem Le.ite {c : Prop} [Decidable c] {x y x' y' : Option A} (h1 : Le x x') (h2 : Le y y') : Le (if c then x else y) (if c then x' else y') := by
  split
  · exact h1
  · exact h2
theorem Le.ix {l : List α} {i : Int} {K K' : α → Option A} (h : ∀ a, Le (K a) (K' a)) : Le (ix l i K) (ix l i K') := by
  unfold Dn.ix
  split
  · exact h _
  · exact Le.rfl' _
theorem Le.iter {K K' : σ → Option (Sum σ ρ)} (h : ∀ s, Le (K s) (K' s)) (n : Nat) (s : σ) : Le (iter K n s) (iter K' n s) := by
  induction n generalizing s with
  | zero => exact Le.rfl' _
  | succ n ih =>
    intro r hr
    simp only [Dn.iter] at hr ⊢
    cases hk : K s with
    | none => rw [hk] at hr; cases hr
    | some x =>
      rw [hk] at hr
      rw [h s x hk]
      cases x with
      | inl s' => exact ih s' r hr
      | inr r' => exact hr
theorem Le.loop {n : Nat} {K K' : σ → Option (Sum σ ρ)} {s : σ} (h : ∀ s, Le (K s) (K' s)) : Le (LoopC n K s) (Loop K' s) := fun r hr => Loop_of_iter (Le.iter h n s r hr)
theorem Le.sum {P Q : Type} {x : P ⊕ Q} {f f' : P → Option A} {g g' : Q → Option A} (h1 : ∀ p, Le (f p) (f' p)) (h2 : ∀ q, Le (g q) (g' q)) : Le (match x with | .inl p => f p | .inr q => g q) (match x with | .inl p => f' p | .inr q => g' q) := by
  cases x
  · exact h1 _
  · exact h2 _
end
end Dn
