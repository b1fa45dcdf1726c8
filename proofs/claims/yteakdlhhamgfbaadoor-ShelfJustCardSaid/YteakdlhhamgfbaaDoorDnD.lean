import Derived.Test.YteakdlhhamgfbaaDoorDnC
import Derived.Lib.SlTrimSet
import Derived.Lib.Bytealg
import Derived.Shelf.Strings.Split
import Derived.Shelf.Strings.SlTrimAscii
import Derived.Shelf.Strings.Runes
import Derived.Lib.IndexBytes
import Derived.LaidLaws
import Derived.Deep.DeepLaidRun
import Derived.Handed
import Derived.JoinedOf
import Derived.KernelRfl
/-
  slices.Delete of the library, walked. Conditions: none.
-/
set_option linter.unusedSimpArgs false
set_option linter.unusedVariables false
namespace Dn
open Go
/-- an operation that yields nothing -/
structure IsOp0 (o : Oper) (op : Op) : Prop where
  dst : o.dst = none
  op : o.op = op
  guard : o.guard = none
section
variable {P : Program} {Q : Exit → Act → World → Prop} {ops : Array Oper} {o : Oper} {a : Act} {w w' : World} {n : Nat} {σ : Nat → Value}
theorem Tm.step0 {i : Nat} {op : Op} {rest : List Nat} {v : Value} (htm : Tm a n σ) (hi : ops[i]? = some o) (ho : IsOp0 o op) (hrun : (execOp (ev σ) o).run P w = .ok (.value v) w')
    (h : wpOps P ops Q rest a w') : wpOps P ops Q (i :: rest) a w := by
  refine wp_val hi ho.guard (v := v) (w' := w') (by rw [htm.eval]; exact hrun) ?_
  rw [ho.dst]; exact h
/-- in order, but for the last two, each of which stands alone when its turn comes -/
def inOrd2 (ops : Array Oper) : Nat → Nat → Array Bool → Bool
  | 0, i, listed => (Region.ready .any ops listed == [i]) && (Region.ready .any ops (listed.setIfInBounds i true) == [i + 1]) && (Region.ready .any ops ((listed.setIfInBounds i true).setIfInBounds (i + 1) true)).isEmpty
  | k + 1, i, listed => Region.free .any ops listed i && (Region.ready .any ops listed).contains i && inOrd2 ops k (i + 1) (listed.setIfInBounds i true)
def drawB2 (ops : Array Oper) : Bool := Region.noSelect ops && Nat.blt 1 ops.size && inOrd2 ops (ops.size - 2) 0 (Array.replicate ops.size false)
structure InOrd2 (ops : Array Oper) (k i : Nat) (listed : Array Bool) : Prop where
  sel : Region.noSelect ops = true
  ord : inOrd2 ops k i listed = true
theorem Tm.draw2 {N : Act → World → Prop} {i d : Nat} {op : Op} {k : Nat} {listed : Array Bool} {v : Value} (htm : Tm a n σ) (hi : ops[i]? = some o) (ho : IsOp o d op) (hd : d < n) (hb : InOrd2 ops (k + 1) i listed) (hrun : ∀ w, (execOp (ev σ) o).run P w = .ok (.value v) w)
    (h : ∀ a', Tm a' n (upd σ d v) → InOrd2 ops k (i + 1) (listed.setIfInBounds i true) → wpAny P .any ops (Only N) (k + 2) (listed.setIfInBounds i true) a' w) : wpAny P .any ops (Only N) (k + 3) listed a w := by
  obtain ⟨hs, hb⟩ := hb
  simp only [inOrd2, Bool.and_eq_true] at hb
  obtain ⟨⟨h1, h2⟩, h3⟩ := hb
  refine wpAny_take hi hs h1 h2 (fun c a w hq => hq.elim) (v := v) (.inl ⟨by simp [Region.wanted, ho.guard], fun w => by rw [htm.eval]; exact hrun w⟩) ?_
  rw [ho.dst]
  exact h _ (htm.put hd v) ⟨hs, h3⟩
theorem Tm.last2 {N : Act → World → Prop} {i d d2 : Nat} {op op2 : Op} {o2 : Oper} {listed : Array Bool} {v v2 : Value} (htm : Tm a n σ) (hi : ops[i]? = some o) (ho : IsOp o d op) (hd : d < n) (hi2 : ops[i + 1]? = some o2) (ho2 : IsOp o2 d2 op2) (hd2 : d2 < n) (hb : InOrd2 ops 0 i listed)
    (hrun : (execOp (ev σ) o).run P w = .ok (.value v) w') (hrun2 : (execOp (ev (upd σ d v)) o2).run P w' = .ok (.value v2) w')
    (h : ∀ a', Tm a' n (upd (upd σ d v) d2 v2) → N a' w') : wpAny P .any ops (Only N) 2 listed a w := by
  obtain ⟨hs, hb⟩ := hb
  simp only [inOrd2, Bool.and_eq_true, List.isEmpty_iff, beq_iff_eq] at hb
  obtain ⟨⟨h1, h2⟩, h3⟩ := hb
  refine wpAny_all h1 (by simp) ?_
  intro j hj
  simp only [List.mem_singleton] at hj
  subst hj
  unfold wpOp
  simp only [hi, Region.wanted, ho.guard, if_true]
  left
  unfold Oper.wp
  rw [htm.eval, hrun, Oper.upon_value, ho.dst]
  have htm2 := htm.put hd v
  refine wpAny_all h2 (by simp) ?_
  intro q hq
  simp only [List.mem_singleton] at hq
  subst hq
  unfold wpOp
  simp only [hi2, Region.wanted, ho2.guard, if_true]
  left
  unfold Oper.wp
  rw [htm2.eval, hrun2, Oper.upon_value, ho2.dst]
  exact wpAny_done h3 (h _ (htm2.put hd2 v2)) 0
theorem wp_draw2 {id k : Nat} (hm : P.follows .mixedOrders = true) (hb : drawB2 ops = true) (hk : ops.size = k + 2) (h : InOrd2 ops k 0 (Array.replicate (k + 2) false) → wpAny P .any ops (Only fun a w => Q .normal a w) (k + 2) (Array.replicate (k + 2) false) a { w with drawn := w.drawn + 1 }) :
    (Code.region id ops true).wp P Q a w := by
  simp only [drawB2, Bool.and_eq_true] at hb
  rw [hk] at hb
  refine Code.wp_mono ?_ (wp_region_any (Q := Only fun a w => Q .normal a w) hm (by rw [hk]; exact h ⟨hb.1.1, hb.2⟩))
  intro x a' w' hx
  cases x <;> first | exact hx | exact hx.elim
/-- a part of a slice, with a bound on its room -/
theorem run_three {d : Nat} {t el : TypeId} {x y z m3 : Operand} {e : Operand → Value} {ad : Option Addr} {m c l h k : Nat} {i : TypeInfo} (ho : IsOp o d (.slice t x (some y) (some z) (some m3))) (hu : P.underlying t = some (.slice el)) (hi : P.info? el = some i)
    (hx : e x = .slice ad m c) (hy : e y = .int .i64 l) (hz : e z = .int .i64 h) (hm : e m3 = .int .i64 k) (h1 : l ≤ h) (h2 : h ≤ k) (h3 : k ≤ c) (w : World) : (execOp e o).run P w = .ok (.value (.slice (if k = l then ad else ad.map (·.add (l * i.size))) (h - l) (k - l))) w := by
  simp [execOp, ho.op, Instr.sliceAt, Instr.slice, run_underlying hu, hx, hy, hz, hm, Go.sizeOf, typeInfo, hi, Instr.sliceBounds, Instr.sliceBound, asIntOf, h1, h2, h3]
/-- .. between two indexes -/
theorem run_between {d : Nat} {t el : TypeId} {x y z : Operand} {e : Operand → Value} {ad : Option Addr} {m c l h size : Nat} {i : TypeInfo} (ho : IsOp o d (.slice t x (some y) (some z) none)) (hu : P.underlying t = some (.slice el)) (hi : P.info? el = some i) (hs : i.size = size)
    (hx : e x = .slice ad m c) (hy : e y = .int .i64 l) (hz : e z = .int .i64 h) (h1 : l ≤ h) (h2 : h ≤ c) (w : World) : (execOp e o).run P w = .ok (.value (.slice (if c = l then ad else ad.map (·.add (l * size))) (h - l) (c - l))) w := by
  simp [execOp, ho.op, Instr.sliceAt, Instr.slice, run_underlying hu, hx, hy, hz, Go.sizeOf, typeInfo, hi, hs, Instr.sliceBounds, Instr.sliceBound, asIntOf, h1, h2]
theorem run_clr {x : Operand} {t1 : TypeId} {e : Operand → Value} {v1 v : Value} (ho : IsOp0 o (.call { callee := .builtin .clear, args := #[x], argTypes := #[t1] })) (hx : e x = v1)
    (h : (Builtin.clear_ #[t1] o.type #[v1]).run P w = .ok v w') : (execOp e o).run P w = .ok (.value v) w' := by
  simp [execOp, ho.op, resolve, invoke, builtin, hx, h]
theorem run_clear_wide {t ty elem t2 : TypeId} {g off n c size : Nat} {z : Value} {cur : Array Value} {i : TypeInfo} (hu : P.underlying t = some (.slice elem)) (hi : P.info? elem = some i) (hz : i.zero = some z) (hzs : z.cells.size = size) (h1 : ∀ v ∈ z.cells.toList, v.oneCell' = true)
    (hg : w.heap[g]? = some (.cells cur t2 (0, 0))) (hn : 0 < n) (hfit : off + n * size ≤ cur.size) :
    ∃ zs : List Value, zs.length = n * size ∧ (Builtin.clear_ #[t] ty #[.slice (some ⟨g, off, none⟩) n c]).run P w = .ok (.tuple #[]) (w.setRow g (cur.toList.take off ++ zs ++ cur.toList.drop (off + zs.length)).toArray) := by
  refine ⟨(Builtin.zeroCells z.cells n).toList, ?_, ?_⟩
  · simp [Builtin.zeroCells, hzs]
  · have hl : (Builtin.zeroCells z.cells n).toList.length = n * size := by simp [Builtin.zeroCells, hzs]
    have hst := run_storeCells_at P g off t2 (Builtin.zeroCells z.cells n).toList 0 cur w hg (by rw [hl]; simpa using hfit) (by
      intro v hv
      simp only [Builtin.zeroCells, Array.toList_map, List.mem_map, Array.mem_toList_iff, Array.mem_range] at hv
      obtain ⟨j, hj, rfl⟩ := hv
      have hpos : 0 < z.cells.size := by
        rcases Nat.eq_zero_or_pos z.cells.size with h0 | h0
        · rw [h0] at hj; omega
        · exact h0
      have hlt : j % z.cells.size < z.cells.size := Nat.mod_lt _ hpos
      rw [getElem!_pos z.cells _ hlt]
      exact h1 _ (by simp))
    simp only [Nat.add_zero] at hst
    obtain ⟨m, rfl⟩ : ∃ m, n = m + 1 := ⟨n - 1, by omega⟩
    simp [Builtin.clear_, run_underlying hu, zeroValue, typeInfo, hi, hz, hst]
end
theorem setRow_at {w : World} {g : Nat} {cur : Array Value} {t : TypeId} {fr : Nat × Nat} (cs : Array Value) (hg : w.heap[g]? = some (.cells cur t fr)) : (w.setRow g cs).heap[g]? = some (.cells cs t fr) := by
  simp [World.setRow, Array.getElem?_modify, hg]
def delCode (r : Nat → Nat) (o : Nat → Oper) : Code :=
  .seq (.region (r 0) #[o 0] false) (.seq (.region (r 1) #[o 1, o 2, o 3, o 4, o 5, o 6] false) (.seq (.seq (.region (r 2) #[o 7, o 8, o 9] false) (.cond (.tmp 16) (.seq (.region (r 3) #[o 10, o 11] false) .ret) .skip)) (.seq (.region (r 4) #[o 12, o 13, o 14] false) (.seq (.region (r 5) #[o 15, o 16, o 17, o 18, o 19, o 20, o 21, o 22] true) (.seq (.region (r 6) #[o 23, o 24, o 25, o 26, o 27, o 28] false) (.seq (.region (r 7) #[o 29, o 30] false) .ret))))))
structure DelOps (t ti : Nat) (o : Nat → Oper) : Prop where
  h0 : IsOp (o 0) 6 (.assign (.const (.slice none 0 0)))
  h1 : IsOp (o 1) 8 (.move (.tmp 0))
  h2 : IsOp (o 2) 9 (.move (.tmp 1))
  h3 : IsOp (o 3) 10 (.move (.tmp 2))
  h4 : IsOp (o 4) 11 (.move (.tmp 0))
  h5 : IsOp (o 5) 12 (.call { callee := .builtin .len, args := #[.tmp 11], argTypes := #[t] })
  h6 : IsOp (o 6) 13 (.slice t (.tmp 8) (some (.tmp 9)) (some (.tmp 10)) (some (.tmp 12)))
  h7 : IsOp (o 7) 14 (.move (.tmp 1))
  h8 : IsOp (o 8) 15 (.move (.tmp 2))
  h9 : IsOp (o 9) 16 (.binOp .eql ti (.tmp 14) (.tmp 15) ti)
  h10 : IsOp (o 10) 17 (.move (.tmp 0))
  h11 : IsOp (o 11) 6 (.assign (.tmp 17))
  h12 : IsOp (o 12) 18 (.move (.tmp 0))
  h13 : IsOp (o 13) 19 (.call { callee := .builtin .len, args := #[.tmp 18], argTypes := #[t] })
  h14 : IsOp (o 14) 7 (.assign (.tmp 19))
  h15 : IsOp (o 15) 20 (.move (.tmp 0))
  h16 : IsOp (o 16) 21 (.move (.tmp 1))
  h17 : IsOp (o 17) 22 (.slice t (.tmp 20) none (some (.tmp 21)) none)
  h18 : IsOp (o 18) 23 (.move (.tmp 0))
  h19 : IsOp (o 19) 24 (.move (.tmp 2))
  h20 : IsOp (o 20) 25 (.slice t (.tmp 23) (some (.tmp 24)) none none)
  h21 : IsOp (o 21) 26 (.call { callee := .builtin .append, args := #[.tmp 22, .tmp 25], argTypes := #[t, t] })
  h22 : IsOp (o 22) 0 (.assign (.tmp 26))
  h23 : IsOp (o 23) 27 (.move (.tmp 0))
  h24 : IsOp (o 24) 28 (.move (.tmp 0))
  h25 : IsOp (o 25) 29 (.call { callee := .builtin .len, args := #[.tmp 28], argTypes := #[t] })
  h26 : IsOp (o 26) 30 (.move (.tmp 7))
  h27 : IsOp (o 27) 31 (.slice t (.tmp 27) (some (.tmp 29)) (some (.tmp 30)) none)
  h28 : IsOp0 (o 28) (.call { callee := .builtin .clear, args := #[.tmp 31], argTypes := #[t] })
  h29 : IsOp (o 29) 32 (.move (.tmp 0))
  h30 : IsOp (o 30) 6 (.assign (.tmp 32))
  d5 : drawB2 #[o 15, o 16, o 17, o 18, o 19, o 20, o 21, o 22] = true
structure DelFn (P : Program) (f t ti el : Nat) (fn : Func) (r : Nat → Nat) (o : Nat → Oper) : Prop where
  pos : P.funcs[f]? = some fn
  name : (fn.name == "runtime.NumGoroutine") = false
  tmps : fn.ntmps = 33
  res : fn.results = #[.tmp 6]
  body : fn.body = some (delCode r o)
  ops : DelOps t ti o
  mix : P.follows .mixedOrders = true
  und : P.underlying t = some (.slice el)
section
variable {P : Program} {f t ti el : Nat} {fn : Func} {r : Nat → Nat} {o : Nat → Oper} {ie : TypeInfo} {size n c i j g : Nat} {ad : Option Addr} {w : World}
theorem del_ret {a : Act} {w : World} {σ : Nat → Value} {R : Ending → World → Prop} {v : Value} (hr : fn.results = #[.tmp 6]) (htm : Tm a 33 σ) (h6 : σ 6 = v) (h : R (.returned v) w) : bodyPost P fn R .ret a w := by
  refine ⟨htm.defers, v, ?_, h⟩
  have h2 : a.tmps[6]?.getD undef = v := by have := htm.get 6; rw [h6] at this; simpa using this
  simp [results, hr, h2]
theorem del_none (hf : DelFn P f t ti el fn r o) (hie : P.info? el = some ie) (hn : n ≤ c) (hi : i ≤ n) :
    Calls P f #[.slice ad n c, .int .i64 ((i : Nat) : Int), .int .i64 ((i : Nat) : Int)] w fun x w' => x = .returned (.slice ad n c) ∧ w' = w := by
  refine calls_of_wp hf.pos hf.body ?_
  rw [hf.tmps]
  have key : ∀ a : Act, Tm a 33 (upd (upd (upd (fun _ => undef) 0 (.slice ad n c)) 1 (.int .i64 ((i : Nat) : Int))) 2 (.int .i64 ((i : Nat) : Int))) → (delCode r o).wp P (bodyPost P fn fun x w' => x = .returned (.slice ad n c) ∧ w' = w) a w := by
   intro a htm
   unfold delCode
   refine wp_seq (wp_region ?_)
   rw [show List.range (#[o 0] : Array Oper).size = [0] from rfl]
   refine htm.step (v := .slice none 0 0) rfl hf.ops.h0 (by decide) (run_asg hf.ops.h0 _) (fun a htm => ?_)
   refine wp_seq (wp_region ?_)
   rw [show List.range (#[o 1, o 2, o 3, o 4, o 5, o 6] : Array Oper).size = [0, 1, 2, 3, 4, 5] from rfl]
   refine htm.step (v := .slice ad n c) rfl hf.ops.h1 (by decide) (run_mv hf.ops.h1 _) (fun a htm => ?_)
   refine htm.step (v := .int .i64 ((i : Nat) : Int)) rfl hf.ops.h2 (by decide) (run_mv hf.ops.h2 _) (fun a htm => ?_)
   refine htm.step (v := .int .i64 ((i : Nat) : Int)) rfl hf.ops.h3 (by decide) (run_mv hf.ops.h3 _) (fun a htm => ?_)
   refine htm.step (v := .slice ad n c) rfl hf.ops.h4 (by decide) (run_mv hf.ops.h4 _) (fun a htm => ?_)
   refine htm.step (v := .int .i64 ((n : Nat) : Int)) rfl hf.ops.h5 (by decide) (run_len hf.ops.h5 hf.und rfl _) (fun a htm => ?_)
   refine htm.step rfl hf.ops.h6 (by decide) (run_three hf.ops.h6 hf.und hie rfl rfl rfl rfl (Nat.le_refl _) hi hn _) (fun a htm => ?_)
   refine wp_seq ?_
   refine wp_seq (wp_region ?_)
   rw [show List.range (#[o 7, o 8, o 9] : Array Oper).size = [0, 1, 2] from rfl]
   refine htm.step (v := .int .i64 ((i : Nat) : Int)) rfl hf.ops.h7 (by decide) (run_mv hf.ops.h7 _) (fun a htm => ?_)
   refine htm.step (v := .int .i64 ((i : Nat) : Int)) rfl hf.ops.h8 (by decide) (run_mv hf.ops.h8 _) (fun a htm => ?_)
   refine htm.step (v := .bool (decide (((i : Nat) : Int) = ((i : Nat) : Int)))) rfl hf.ops.h9 (by decide) (run_ieq hf.ops.h9 rfl rfl _) (fun a htm => ?_)
   refine htm.cond (b := true) (by show Value.bool (decide (((i : Nat) : Int) = ((i : Nat) : Int))) = _; rw [decide_eq_true rfl]) ?_
   simp only [if_true]
   refine wp_seq (wp_region ?_)
   rw [show List.range (#[o 10, o 11] : Array Oper).size = [0, 1] from rfl]
   refine htm.step (v := .slice ad n c) rfl hf.ops.h10 (by decide) (run_mv hf.ops.h10 _) (fun a htm => ?_)
   refine htm.step (v := .slice ad n c) rfl hf.ops.h11 (by decide) (run_asg hf.ops.h11 _) (fun a htm => ?_)
   refine wp_ret ?_
   show bodyPost P fn (fun x wq => x = .returned (.slice ad n c) ∧ wq = w) .ret a w
   refine del_ret hf.res htm (v := .slice ad n c) rfl ?_
   exact ⟨rfl, rfl⟩
  exact key _ (tm3 _ _ _ 30)
theorem del_some (hf : DelFn P f t ti el fn r o) (hie : P.info? el = some ie) (hse : ie.size = size) (hn : n ≤ c) (hij : i < j) (hj : j ≤ n) {w1 w2 : World}
    (hA : ∀ ty, (Builtin.append_ #[t, t] ty #[.slice (some ⟨g, 0, none⟩) i c, .slice (if c = j then (some ⟨g, 0, none⟩ : Option Addr) else some ⟨g, j * size, none⟩) (n - j) (c - j)]).run P { w with drawn := w.drawn + 1 } = .ok (.slice (some ⟨g, 0, none⟩) (i + (n - j)) c) w1)
    (hC : ∀ ty, (Builtin.clear_ #[t] ty #[.slice (some ⟨g, (i + (n - j)) * size, none⟩) (n - (i + (n - j))) (c - (i + (n - j)))]).run P w1 = .ok (.tuple #[]) w2) :
    Calls P f #[.slice (some ⟨g, 0, none⟩) n c, .int .i64 ((i : Nat) : Int), .int .i64 ((j : Nat) : Int)] w fun x w' => x = .returned (.slice (some ⟨g, 0, none⟩) (i + (n - j)) c) ∧ w' = w2 := by
  refine calls_of_wp hf.pos hf.body ?_
  rw [hf.tmps]
  have h0 : ∀ l : Nat, (⟨g, 0, none⟩ : Addr).add l = ⟨g, l, none⟩ := fun l => by
    have := Addr.add_mid g 0 l
    rwa [Nat.zero_add] at this
  have key : ∀ a : Act, Tm a 33 (upd (upd (upd (fun _ => undef) 0 (.slice (some ⟨g, 0, none⟩) n c)) 1 (.int .i64 ((i : Nat) : Int))) 2 (.int .i64 ((j : Nat) : Int))) → (delCode r o).wp P (bodyPost P fn fun x w' => x = .returned (.slice (some ⟨g, 0, none⟩) (i + (n - j)) c) ∧ w' = w2) a w := by
   intro a htm
   unfold delCode
   refine wp_seq (wp_region ?_)
   rw [show List.range (#[o 0] : Array Oper).size = [0] from rfl]
   refine htm.step (v := .slice none 0 0) rfl hf.ops.h0 (by decide) (run_asg hf.ops.h0 _) (fun a htm => ?_)
   refine wp_seq (wp_region ?_)
   rw [show List.range (#[o 1, o 2, o 3, o 4, o 5, o 6] : Array Oper).size = [0, 1, 2, 3, 4, 5] from rfl]
   refine htm.step (v := .slice (some ⟨g, 0, none⟩) n c) rfl hf.ops.h1 (by decide) (run_mv hf.ops.h1 _) (fun a htm => ?_)
   refine htm.step (v := .int .i64 ((i : Nat) : Int)) rfl hf.ops.h2 (by decide) (run_mv hf.ops.h2 _) (fun a htm => ?_)
   refine htm.step (v := .int .i64 ((j : Nat) : Int)) rfl hf.ops.h3 (by decide) (run_mv hf.ops.h3 _) (fun a htm => ?_)
   refine htm.step (v := .slice (some ⟨g, 0, none⟩) n c) rfl hf.ops.h4 (by decide) (run_mv hf.ops.h4 _) (fun a htm => ?_)
   refine htm.step (v := .int .i64 ((n : Nat) : Int)) rfl hf.ops.h5 (by decide) (run_len hf.ops.h5 hf.und rfl _) (fun a htm => ?_)
   refine htm.step rfl hf.ops.h6 (by decide) (run_three hf.ops.h6 hf.und hie rfl rfl rfl rfl (Nat.le_of_lt hij) hj hn _) (fun a htm => ?_)
   refine wp_seq ?_
   refine wp_seq (wp_region ?_)
   rw [show List.range (#[o 7, o 8, o 9] : Array Oper).size = [0, 1, 2] from rfl]
   refine htm.step (v := .int .i64 ((i : Nat) : Int)) rfl hf.ops.h7 (by decide) (run_mv hf.ops.h7 _) (fun a htm => ?_)
   refine htm.step (v := .int .i64 ((j : Nat) : Int)) rfl hf.ops.h8 (by decide) (run_mv hf.ops.h8 _) (fun a htm => ?_)
   refine htm.step (v := .bool (decide (((i : Nat) : Int) = ((j : Nat) : Int)))) rfl hf.ops.h9 (by decide) (run_ieq hf.ops.h9 rfl rfl _) (fun a htm => ?_)
   refine htm.cond (b := false) (by show Value.bool (decide (((i : Nat) : Int) = ((j : Nat) : Int))) = _; rw [decide_eq_false (by omega)]) ?_
   simp only [Bool.false_eq_true, if_false]
   refine wp_skip ?_
   refine wp_seq (wp_region ?_)
   rw [show List.range (#[o 12, o 13, o 14] : Array Oper).size = [0, 1, 2] from rfl]
   refine htm.step (v := .slice (some ⟨g, 0, none⟩) n c) rfl hf.ops.h12 (by decide) (run_mv hf.ops.h12 _) (fun a htm => ?_)
   refine htm.step (v := .int .i64 ((n : Nat) : Int)) rfl hf.ops.h13 (by decide) (run_len hf.ops.h13 hf.und rfl _) (fun a htm => ?_)
   refine htm.step (v := .int .i64 ((n : Nat) : Int)) rfl hf.ops.h14 (by decide) (run_asg hf.ops.h14 _) (fun a htm => ?_)
   refine wp_seq (wp_draw2 hf.mix hf.ops.d5 (k := 6) rfl fun hord => ?_)
   refine htm.draw2 (v := .slice (some ⟨g, 0, none⟩) n c) rfl hf.ops.h15 (by decide) hord (fun w => run_mv hf.ops.h15 _) (fun a htm hord => ?_)
   refine htm.draw2 (v := .int .i64 ((i : Nat) : Int)) rfl hf.ops.h16 (by decide) hord (fun w => run_mv hf.ops.h16 _) (fun a htm hord => ?_)
   refine htm.draw2 (v := .slice (some ⟨g, 0, none⟩) i c) rfl hf.ops.h17 (by decide) hord (fun w => run_upto hf.ops.h17 hf.und hie hse rfl rfl (by omega) _) (fun a htm hord => ?_)
   refine htm.draw2 (v := .slice (some ⟨g, 0, none⟩) n c) rfl hf.ops.h18 (by decide) hord (fun w => run_mv hf.ops.h18 _) (fun a htm hord => ?_)
   refine htm.draw2 (v := .int .i64 ((j : Nat) : Int)) rfl hf.ops.h19 (by decide) hord (fun w => run_mv hf.ops.h19 _) (fun a htm hord => ?_)
   refine htm.draw2 (v := .slice (if c = j then (some ⟨g, 0, none⟩ : Option Addr) else some ⟨g, j * size, none⟩) (n - j) (c - j)) rfl hf.ops.h20 (by decide) hord (fun w => by
     refine (run_from (P := P) hf.ops.h20 hf.und hie hse (ad := some ⟨g, 0, none⟩) (m := n) (c := c) (l := j) rfl rfl hj w).trans ?_
     rw [show (some (⟨g, 0, none⟩ : Addr)).map (·.add (j * size)) = some ⟨g, j * size, none⟩ from congrArg some (h0 _)]) (fun a htm hord => ?_)
   refine htm.last2 (v := .slice (some ⟨g, 0, none⟩) (i + (n - j)) c) (v2 := .slice (some ⟨g, 0, none⟩) (i + (n - j)) c) rfl hf.ops.h21 (by decide) rfl hf.ops.h22 (by decide) hord (run_app2 hf.ops.h21 rfl rfl (hA _)) (run_asg hf.ops.h22 _) (fun a htm => ?_)
   refine wp_seq (wp_region ?_)
   rw [show List.range (#[o 23, o 24, o 25, o 26, o 27, o 28] : Array Oper).size = [0, 1, 2, 3, 4, 5] from rfl]
   refine htm.step (v := .slice (some ⟨g, 0, none⟩) (i + (n - j)) c) rfl hf.ops.h23 (by decide) (run_mv hf.ops.h23 _) (fun a htm => ?_)
   refine htm.step (v := .slice (some ⟨g, 0, none⟩) (i + (n - j)) c) rfl hf.ops.h24 (by decide) (run_mv hf.ops.h24 _) (fun a htm => ?_)
   refine htm.step (v := .int .i64 ((i + (n - j) : Nat) : Int)) rfl hf.ops.h25 (by decide) (run_len hf.ops.h25 hf.und rfl _) (fun a htm => ?_)
   refine htm.step (v := .int .i64 ((n : Nat) : Int)) rfl hf.ops.h26 (by decide) (run_mv hf.ops.h26 _) (fun a htm => ?_)
   refine htm.step (v := .slice (some ⟨g, (i + (n - j)) * size, none⟩) (n - (i + (n - j))) (c - (i + (n - j)))) rfl hf.ops.h27 (by decide) (by
     refine (run_between (P := P) hf.ops.h27 hf.und hie hse (ad := some ⟨g, 0, none⟩) (m := i + (n - j)) (c := c) (l := i + (n - j)) (h := n) rfl rfl rfl (by omega) (by omega) w1).trans ?_
     rw [if_neg (show ¬ c = i + (n - j) by omega)]
     rw [show (some (⟨g, 0, none⟩ : Addr)).map (·.add ((i + (n - j)) * size)) = some ⟨g, (i + (n - j)) * size, none⟩ from congrArg some (h0 _)]) (fun a htm => ?_)
   refine htm.step0 (v := .tuple #[]) rfl hf.ops.h28 (run_clr hf.ops.h28 rfl (hC _)) ?_
   refine wp_seq (wp_region ?_)
   rw [show List.range (#[o 29, o 30] : Array Oper).size = [0, 1] from rfl]
   refine htm.step (v := .slice (some ⟨g, 0, none⟩) (i + (n - j)) c) rfl hf.ops.h29 (by decide) (run_mv hf.ops.h29 _) (fun a htm => ?_)
   refine htm.step (v := .slice (some ⟨g, 0, none⟩) (i + (n - j)) c) rfl hf.ops.h30 (by decide) (run_asg hf.ops.h30 _) (fun a htm => ?_)
   refine wp_ret ?_
   show bodyPost P fn (fun x wq => x = .returned (.slice (some ⟨g, 0, none⟩) (i + (n - j)) c) ∧ wq = w2) .ret a w2
   refine del_ret hf.res htm (v := .slice (some ⟨g, 0, none⟩) (i + (n - j)) c) rfl ?_
   exact ⟨rfl, rfl⟩
  exact key _ (tm3 _ _ _ 30)
end
section
variable {P : Program} {c : Ctx} {f : Nat}
theorem delete_ok {t ti el : Nat} {fn : Func} {r : Nat → Nat} {o : Nat → Oper} {I E : TI} {xs : List MV} {i j : Nat} (hf : DelFn P f t ti el fn r o) (hT : TIok P c.ti) (hI : c.tv t = some I) (hL : I.isL = true) (hE : c.tv I.elem = some E)
    (hel : el = I.elem) (hfty : c.fty (c.key f) = I.elem) (hg : c.gives (c.key f) = true) (hij : i ≤ j) (hj : j ≤ xs.length) : Sound1 P c f [.fresh xs, .i .i64 i, .i .i64 j] (.fresh (xs.take i ++ xs.drop j)) := by
  subst hel
  obtain ⟨hIt, hIc⟩ := tv_some hI
  obtain ⟨hEi, hEc⟩ := tv_some hE
  obtain ⟨hu, E2, hE2, _, hpos⟩ := TI.isL_of (hT t I hIt) hL
  rw [hEi] at hE2
  cases hE2
  obtain ⟨ie, z, hie, hse, hby, hz0, hzs⟩ := zero_size (hT _ E hEi) hEc
  obtain ⟨ie2, z2, hie2, hz2, hzr⟩ := alloc_zero hE hT
  rw [hie] at hie2
  cases hie2
  rw [hz0] at hz2
  cases hz2
  have hz1 : ∀ v ∈ z.cells.toList, v.oneCell' = true := (hzr (env0 c.key fun _ _ => none)).cells
  intro φ W Z vs hz hargs himm
  simp only [ArgsIn, hg, if_true] at hargs
  obtain ⟨v0, v1, v2, xs', m1, m2, rfl, hms, h2one, F0, A1, A2⟩ := hargs.resolve_left (by
    rintro ⟨_, _, _, _, _, ys, _, h1, _⟩
    simp only [List.cons.injEq, and_true] at h1
    exact absurd h1.2.2 (by simp))
  simp only [List.cons.injEq, MV.fresh.injEq, and_true] at hms
  obtain ⟨rfl, rfl, rfl⟩ := hms
  have num : ∀ {v : Value} {n : Nat}, ArgRep c.key φ v (.i .i64 (n : Int)) → v = .int .i64 (n : Int) := by
    intro v n h
    obtain ⟨_, h⟩ := h
    generalize hvs : [v] = l at h
    cases h; simpa using hvs
  have hv1 := num A1
  have hv2 := num A2
  subst hv1
  subst hv2
  rw [hfty] at F0
  obtain ⟨I0, cells, hI0, _, hown0, hels0, hblk0⟩ := F0
  have hI0 : c.ti I.elem = some I0 := hI0
  rw [hEi] at hI0
  cases hI0
  have hown0 : W.ownsRow 0 I.elem E.size v0 xs.length cells := hown0
  have hels0 : ElemsRep c.key φ E.size cells xs := hels0
  have hv0 : ∀ b, v0.ownBlock = some b → Z b ∧ ∀ off, φ b off = none := by
    intro b hb
    refine ⟨(hblk0 b hb).1, fun off => ?_⟩
    cases h : φ b off with
    | none => rfl
    | some u => have := ((hblk0 b hb).2.1 off u h).1; cases this
  have hcl : cells.length = xs.length * E.size := hels0.length
  have hrun : (callFunc f [v0, .int .i64 (i : Int), .int .i64 (j : Int)].toArray).run P W = .ok (.enter f #[v0, .int .i64 (i : Int), .int .i64 (j : Int)]) W := by
    have hn2 : ¬ fn.name = "runtime.NumGoroutine" := by simpa using hf.name
    simp [callFunc, hf.pos, hn2, hf.body]
  unfold CallOK
  rw [hrun]
  rcases Nat.lt_or_ge i j with hlt | hge
  · -- some go
    obtain ⟨g, cp, cur, rfl, _, hg0, hnc, hcm, hcs, htk⟩ : ∃ g cp cur, v0 = .slice (some ⟨g, 0, none⟩) xs.length cp ∧ 0 ≤ g ∧ W.heap[g]? = some (.cells cur I.elem (0, 0)) ∧ xs.length ≤ cp ∧ cp ≤ maxLen ∧ cur.size = cp * E.size ∧ cur.toList.take (xs.length * E.size) = cells := by
      rcases hown0.2 with ⟨_, h0⟩ | h
      · omega
      · exact h
    have hl0 : cells.length ≤ cur.size := by rw [hcl, hcs]; exact Nat.mul_le_mul_right _ hnc
    obtain ⟨news, hnews⟩ : ∃ news, news = cells.drop (j * E.size) := ⟨_, rfl⟩
    have hnl : news.length = (xs.length - j) * E.size := by rw [hnews, List.length_drop, hcl, Nat.sub_mul]
    have hn1 : ∀ u ∈ news, u.oneCell' = true := fun u hu => hels0.cells1 u (by rw [hnews] at hu; exact List.mem_of_mem_drop hu)
    have hmul : ∀ {a b : Nat}, a ≤ b → a * E.size ≤ b * E.size := fun h => Nat.mul_le_mul_right _ h
    have hij' : i * E.size ≤ j * E.size := hmul (by omega)
    have hjn : j * E.size ≤ xs.length * E.size := hmul hj
    have hnc' : xs.length * E.size ≤ cp * E.size := hmul hnc
    have hlo : (i + (xs.length - j)) * E.size = i * E.size + news.length := by rw [Nat.add_mul, hnl]
    have hsum : news.length + j * E.size = xs.length * E.size := by rw [hnl, Nat.sub_mul]; omega
    -- the append
    obtain ⟨cur1, hcur1⟩ : ∃ cur1 : Array Value, cur1 = (cur.toList.take (i * E.size) ++ news ++ cur.toList.drop (i * E.size + news.length)).toArray := ⟨_, rfl⟩
    have lcur : cur.toList.length = cur.size := Array.length_toList
    have lcur1 : cur1.toList.length = cur1.size := Array.length_toList
    have hA : ∀ ty, (Builtin.append_ #[t, t] ty #[.slice (some ⟨g, 0, none⟩) i cp, .slice (if cp = j then (some ⟨g, 0, none⟩ : Option Addr) else some ⟨g, j * E.size, none⟩) (xs.length - j) (cp - j)]).run P { W with drawn := W.drawn + 1 } = .ok (.slice (some ⟨g, 0, none⟩) (i + (xs.length - j)) cp) (({ W with drawn := W.drawn + 1 } : World).setRow g cur1) := by
      intro ty
      have hfit : i * ie.size + news.length ≤ cur.size := by rw [hse, hcs]; omega
      by_cases hcj : cp = j
      · rw [if_pos hcj]
        refine run_append_room (P := P) (w := { W with drawn := W.drawn + 1 }) t ty I.elem ie hu hie g i cp cur hg0 ⟨g, 0, none⟩ (xs.length - j) (cp - j) news (by rw [hse]; exact hnl) ?_ hn1 (by omega) hfit |>.trans ?_
        · intro q u hq
          have := (List.getElem?_eq_some_iff.1 hq).1
          rw [hnl, show xs.length - j = 0 by omega] at this
          omega
        · rw [hse, hcur1]
      · rw [if_neg hcj]
        refine run_append_room (P := P) (w := { W with drawn := W.drawn + 1 }) t ty I.elem ie hu hie g i cp cur hg0 ⟨g, j * E.size, none⟩ (xs.length - j) (cp - j) news (by rw [hse]; exact hnl) ?_ hn1 (by omega) hfit |>.trans ?_
        · intro q u hq
          have h1 := hown0.cells (g := g) rfl (j * E.size + q) u (by rw [hnews, List.getElem?_drop] at hq; exact hq)
          rw [Addr.add_mid] at h1 ⊢
          rw [Nat.zero_add] at h1
          exact h1
        · rw [hse, hcur1]
    have hc1 : cur1.size = cur.size := by
      rw [hcur1]
      simp only [List.size_toArray, List.length_append, List.length_take, List.length_drop, lcur]
      omega
    have hg1 : (({ W with drawn := W.drawn + 1 } : World).setRow g cur1).heap[g]? = some (.cells cur1 I.elem (0, 0)) := setRow_at _ hg0
    obtain ⟨zs, hzl, hC0⟩ := run_clear_wide (P := P) (t := t) (ty := 0) (c := cp - (i + (xs.length - j))) (w := ({ W with drawn := W.drawn + 1 } : World).setRow g cur1) (off := (i + (xs.length - j)) * E.size) (n := xs.length - (i + (xs.length - j))) hu hie hz0 hzs hz1 hg1 (by omega) (by rw [hc1, hcs, ← Nat.add_mul]; exact hmul (by omega))
    obtain ⟨cur2, hcur2⟩ : ∃ cur2 : Array Value, cur2 = (cur1.toList.take ((i + (xs.length - j)) * E.size) ++ zs ++ cur1.toList.drop ((i + (xs.length - j)) * E.size + zs.length)).toArray := ⟨_, rfl⟩
    rw [← hcur2] at hC0
    have hC : ∀ ty, (Builtin.clear_ #[t] ty #[.slice (some ⟨g, (i + (xs.length - j)) * E.size, none⟩) (xs.length - (i + (xs.length - j))) (cp - (i + (xs.length - j)))]).run P (({ W with drawn := W.drawn + 1 } : World).setRow g cur1) = .ok (.tuple #[]) ((({ W with drawn := W.drawn + 1 } : World).setRow g cur1).setRow g cur2) := fun ty => hC0
    refine (del_some (w := W) hf hie hse hnc hlt hj hA hC).mono ?_
    rintro x w' ⟨rfl, rfl⟩
    refine ⟨_, rfl, ?_⟩
    have hzl2 : zs.length = (j - i) * E.size := by rw [hzl]; congr 1; omega
    have hc2 : cur2.size = cur.size := by
      rw [hcur2]
      simp only [List.size_toArray, List.length_append, List.length_take, List.length_drop, lcur1, hc1]
      rw [hzl2, Nat.sub_mul, hlo]
      omega
    have htk2 : cur2.toList.take ((i + (xs.length - j)) * E.size) = cells.take (i * E.size) ++ cells.drop (j * E.size) := by
      rw [hcur2]
      have l1 : (cur1.toList.take ((i + (xs.length - j)) * E.size)).length = (i + (xs.length - j)) * E.size := by
        rw [List.length_take, lcur1, hc1, hcs, hlo]; omega
      rw [show ∀ l : List Value, l.toArray.toList = l from fun _ => rfl, List.append_assoc, List.take_append_of_le_length (by rw [l1]; exact Nat.le_refl _), List.take_of_length_le (by rw [l1]; exact Nat.le_refl _), hlo, hcur1]
      have l2 : (cur.toList.take (i * E.size)).length = i * E.size := by rw [List.length_take, lcur, hcs]; omega
      rw [show ∀ l : List Value, l.toArray.toList = l from fun _ => rfl, List.take_append_of_le_length (by rw [List.length_append, l2]; exact Nat.le_refl _), List.take_of_length_le (by rw [List.length_append, l2]; exact Nat.le_refl _), hnews]
      congr 1
      rw [← htk, List.take_take, Nat.min_eq_left (by omega)]
    have e2 : (({ W with drawn := W.drawn + 1 } : World).setRow g cur1).setRow g cur2 = ({ W with drawn := W.drawn + 1 } : World).setRow g cur2 := setRow_setRow _ _ _ _
    have hg2 : ((({ W with drawn := W.drawn + 1 } : World).setRow g cur1).setRow g cur2).heap[g]? = some (.cells cur2 I.elem (0, 0)) := setRow_at _ hg1
    have hrl : (xs.take i ++ xs.drop j).length = i + (xs.length - j) := by rw [List.length_append, List.length_take, List.length_drop]; omega
    refine fin_own (n := i + (xs.length - j)) (cells := cells.take (i * E.size) ++ cells.drop (j * E.size)) hz himm hEi hEc hfty ?_ ?_ ?_ hv0 ?_ hrl ((hels0.take i).append (hels0.drop j)) ?_
    · intro b _ hne
      have hbg : b ≠ g := fun e => hne (by rw [e]; rfl)
      rw [setRow_other _ _ _ _ hbg, setRow_other _ _ _ _ hbg]
    · simp [World.setRow]
    · have r1 : Rest W ({ W with drawn := W.drawn + 1 } : World) := ⟨rfl, rfl, rfl, fun _ => rfl⟩
      exact (r1.trans (Rest.setRow _ g cur1)).trans (Rest.setRow _ g cur2)
    · refine ⟨?_, .inr ⟨g, cp, cur2, rfl, Nat.zero_le _, hg2, by omega, hcm, by rw [hc2, hcs], htk2⟩⟩
      rw [List.length_append, List.length_take, List.length_drop, hcl, hlo, hnl, Nat.sub_mul]; omega
    · intro b hb; exact .inl hb
  · -- none goes
    have hji : j = i := by omega
    subst hji
    obtain ⟨ad, cp, hv, hnc⟩ : ∃ ad cp, v0 = .slice ad xs.length cp ∧ xs.length ≤ cp := by
      rcases hown0.2 with ⟨h1, h2⟩ | ⟨g, cp, cur, h1, _, _, h4, _⟩
      · exact ⟨none, 0, by rw [h1, h2], by omega⟩
      · exact ⟨_, cp, h1, h4⟩
    have hvv := hv
    subst hv
    refine (del_none (w := W) (ad := ad) hf hie hnc hj).mono ?_
    rintro x w' ⟨rfl, rfl⟩
    refine ⟨_, rfl, φ, ⟨.refl _, fun _ _ _ => rfl, fun _ _ _ => rfl, Nat.le_refl _, .refl _⟩, himm, ?_⟩
    show FamOK c (Zone.plain Z) (env0 c.key φ) w' _ ⟨c.fty (c.key f), false, xs.take j ++ xs.drop j⟩
    rw [hfty, List.take_append_drop]
    exact ⟨E, cells, hEi, hEc, hown0, hels0, hblk0⟩
end
def deleteF : List MV → Option MV
  | [.fresh xs, .i .i64 i, .i .i64 j] => bif decide (0 ≤ i) && (decide (i ≤ j) && decide (j ≤ (xs.length : Int))) then some (.fresh (xs.take i.toNat ++ xs.drop j.toNat)) else none
  | _ => none
theorem deleteF_some {ms : List MV} {r : MV} (h : deleteF ms = some r) : ∃ xs i j, ms = [.fresh xs, .i .i64 ((i : Nat) : Int), .i .i64 ((j : Nat) : Int)] ∧ r = .fresh (xs.take i ++ xs.drop j) ∧ i ≤ j ∧ j ≤ xs.length := by
  unfold deleteF at h
  split at h
  · rename_i xs i j
    cases hb : decide (0 ≤ i) && (decide (i ≤ j) && decide (j ≤ (xs.length : Int))) with
    | false => rw [hb] at h; cases h
    | true =>
      simp only [hb, cond_true, Option.some.injEq] at h
      simp only [Bool.and_eq_true, decide_eq_true_eq] at hb
      obtain ⟨h1, h2, h3⟩ := hb
      refine ⟨xs, i.toNat, j.toNat, ?_, h.symm, by omega, by omega⟩
      rw [Int.toNat_of_nonneg h1, Int.toNat_of_nonneg (by omega)]
  · cases h
end Dn
/-
  Functions of the library as table entries. Conditions: none.
-/
set_option linter.unusedVariables false
namespace Dn
open Go
def cloneF (size bytes : Nat) : List MV → Option MV
  | [.list xs] => bif wids size xs && Nat.ble (xs.length * bytes) (2 ^ 46) then some (.fresh xs) else none
  | _ => none
def insertF (bytes : Nat) : List MV → Option MV
  | [.fresh xs, .i .i64 i, .fresh ys] => bif decide (0 ≤ i) && (Nat.ble i.toNat xs.length && (!ys.isEmpty && Nat.ble ((xs.length + ys.length) * bytes) (2 ^ 46))) then some (.fresh (xs.take i.toNat ++ ys ++ xs.drop i.toNat)) else none
  | _ => none
theorem cloneF_some {size bytes : Nat} {ms : List MV} {r : MV} (h : cloneF size bytes ms = some r) : ∃ xs, ms = [.list xs] ∧ r = .fresh xs ∧ wids size xs = true ∧ xs.length * bytes ≤ 2 ^ 46 := by
  unfold cloneF at h
  split at h
  · rename_i xs
    cases hb : wids size xs && Nat.ble (xs.length * bytes) (2 ^ 46) with
    | false => simp [hb] at h
    | true =>
      simp only [hb, cond_true, Option.some.injEq] at h
      simp only [Bool.and_eq_true] at hb
      exact ⟨xs, rfl, h.symm, hb.1, Nat.le_of_ble_eq_true hb.2⟩
  · cases h
theorem insertF_some {bytes : Nat} {ms : List MV} {r : MV} (h : insertF bytes ms = some r) : ∃ xs ys i, ms = [.fresh xs, .i .i64 ((i : Nat) : Int), .fresh ys] ∧ r = .fresh (xs.take i ++ ys ++ xs.drop i) ∧ i ≤ xs.length ∧ ys ≠ [] ∧ (xs.length + ys.length) * bytes ≤ 2 ^ 46 := by
  unfold insertF at h
  split at h
  · rename_i xs i ys
    cases hb : decide (0 ≤ i) && (Nat.ble i.toNat xs.length && (!ys.isEmpty && Nat.ble ((xs.length + ys.length) * bytes) (2 ^ 46))) with
    | false => rw [hb] at h; cases h
    | true =>
      simp only [hb, cond_true, Option.some.injEq] at h
      simp only [Bool.and_eq_true, decide_eq_true_eq, Bool.not_eq_true'] at hb
      obtain ⟨h1, h2, h3, h4⟩ := hb
      refine ⟨xs, ys, i.toNat, ?_, h.symm, Nat.le_of_ble_eq_true h2, ?_, Nat.le_of_ble_eq_true h4⟩
      · rw [Int.toNat_of_nonneg h1]
      · intro hy; subst hy; simp at h3
  · cases h
theorem SoundG.none (P : Program) (c : Ctx) : SoundG P c (fun _ _ => Option.none) := ⟨fun f ms r h => by cases h⟩
theorem SoundG.add1 {P : Program} {c : Ctx} {g : Nat → List MV → Option MV} {n : Nat} {F : List MV → Option MV} (h : SoundG P c g) (hkey : ∀ f, c.key f = f) (hF : ∀ ms r, F ms = some r → Sound1 P c n ms r) : SoundG P c (addG n F g) :=
  h.add (fun f ms r hk hr => by
    rw [hkey] at hk
    rw [hk]
    exact hF ms r hr)
/-- the operations of a text, one after the other -/
def codeOps : Code → List Oper
  | .region _ ops _ => ops.toList
  | .seq x y => codeOps x ++ codeOps y
  | .cond _ x y => codeOps x ++ codeOps y
  | _ => []
def opAt (fn : Func) (d : Oper) (k : Nat) : Oper := match fn.body with | some c => (codeOps c).getD k d | none => d
def insTail (o : Nat → Oper) : Code := .seq (.region 18 #[o 83, o 84, o 85, o 86, o 87] false) (.seq (.region 19 #[o 88, o 89, o 90, o 91, o 92] false) (.seq (.region 20 #[o 93, o 94] false) .ret))
def noOp : Oper := { dst := none, op := .move (.tmp 0), type := 0, pos := "", after := #[], guard := none }
end Dn
/-
  Reasoning about functions on values. Conditions: none.
-/
set_option linter.unusedVariables false
namespace Dn
open Go
section
variable {R : Type}
@[simp] theorem gB_b (x : Bool) (K : Bool → Option R) : gB (.b x) K = K x := (rfl)
@[simp] theorem gI_i (k : IntKind) (x : Int) (K : Int → Option R) : gI k (.i k x) K = K x := by simp [gI]
@[simp] theorem gS_s (x : List UInt8) (K : List UInt8 → Option R) : gS (.s x) K = K x := (rfl)
@[simp] theorem gL_l (x : List MV) (K : List MV → Option R) : gL (.list x) K = K x := (rfl)
@[simp] theorem gH_h (x : Hash) (K : Hash → Option R) : gH (.h x) K = K x := (rfl)
@[simp] theorem gA_a (x : List MV) (K : List MV → Option R) : gA (.agg x) K = K x := (rfl)
@[simp] theorem gT_t (x : List MV) (K : List MV → Option R) : gT (.tup x) K = K x := (rfl)
@[simp] theorem gF_f (x : List MV) (K : List MV → Option R) : gF (.fresh x) K = K x := (rfl)
@[simp] theorem gFn_f (f : Nat) (x : List MV) (K : Nat → List MV → Option R) : gFn (.func f x) K = K f x := (rfl)
@[simp] theorem gR_f (f : Nat) (x : List MV) (K : MV → Option R) : gR (.func f x) K = K (.func f x) := (rfl)
@[simp] theorem gC_c (m : MV) (r : List MV) (K : MV → List MV → Option R) : gC (m :: r) K = K m r := (rfl)
@[simp] theorem gN_n (K : Option R) : gN [] K = K := (rfl)
@[simp] theorem bd_s {α : Type} (a : α) (K : α → Option R) : bd (some a) K = K a := (rfl)
@[simp] theorem nbeq' (a b : Nat) : Nat.beq a b = decide (a = b) := nbeq a b
@[simp] theorem chk_true (K : Option R) : chk true K = K := (rfl)
@[simp] theorem ifB_true (x y : Option R) : ifB true x y = x := (rfl)
@[simp] theorem ifB_false (x y : Option R) : ifB false x y = y := (rfl)
theorem ifB_ite (c : Prop) [Decidable c] (x y : Option R) : ifB (decide c) x y = if c then x else y := by
  by_cases h : c <;> simp [h]
theorem chk_of {c : Bool} (h : c = true) (K : Option R) : chk c K = K := by rw [h]; rfl
theorem idx_map {α : Type} (f : α → MV) (L : List α) (k : Nat) (h : k < L.length) (K : MV → Option R) : idx (L.map f) (k : Int) K = K (f L[k]) := by
  simp [idx, idxO, h]
theorem idx_at (L : List MV) (k : Nat) (h : k < L.length) (K : MV → Option R) : idx L (k : Int) K = K L[k] := by
  simp [idx, idxO, h]
end
theorem wrap_id {x : Int} (h1 : -9223372036854775808 ≤ x) (h2 : x ≤ 9223372036854775807) : IntKind.wrap .i64 x = x := by rw [IntKind.wrap_i64]; omega
theorem mid_eq {i j : Nat} (h : i + j < 2 ^ 62) : IntKind.wrap .i64 (Int.fdiv (IntKind.wrap .u64 (IntKind.wrap .i64 ((i : Int) + (j : Int)))) (2 ^ min (Int.toNat 1) (IntKind.bits .u64))) = (((i + j) / 2 : Nat) : Int) := by
  have h1 : IntKind.wrap .i64 ((i : Int) + (j : Int)) = ((i + j : Nat) : Int) := by rw [IntKind.wrap_i64]; omega
  have h2 : IntKind.wrap .u64 ((i + j : Nat) : Int) = ((i + j : Nat) : Int) := by
    have : IntKind.wrap .u64 ((i + j : Nat) : Int) = ((i + j : Nat) : Int) % 18446744073709551616 := by simp [IntKind.wrap, IntKind.signed, IntKind.bits]
    rw [this]; omega
  have h3 : (2 : Int) ^ min (Int.toNat 1) (IntKind.bits .u64) = 2 := by decide
  rw [h1, h2, h3, Int.fdiv_eq_ediv_of_nonneg _ (by omega)]
  rw [IntKind.wrap_i64]; omega
section
variable {σ R : Type} {body : σ → Option (Sum σ R)}
theorem iter_mono {n : Nat} {s : σ} {r : R} (h : iter body n s = some r) : ∀ {m : Nat}, n ≤ m → iter body m s = some r := by
  induction n generalizing s with
  | zero => cases h
  | succ n ih =>
    intro m hm
    obtain ⟨m, rfl⟩ : ∃ k, m = k + 1 := ⟨m - 1, by omega⟩
    simp only [iter] at h ⊢
    cases hb : body s with
    | none => rw [hb] at h; cases h
    | some x =>
      rw [hb] at h
      cases x with
      | inl s' => exact ih h (by omega)
      | inr r' => exact h
theorem Loop_of_iter {n : Nat} {s : σ} {r : R} (h : iter body n s = some r) : Loop body s = some r := by
  have he : ∃ r n, iter body n s = some r := ⟨r, n, h⟩
  unfold Loop
  rw [dif_pos he]
  obtain ⟨m, hm⟩ := Classical.choose_spec he
  have h1 := iter_mono h (Nat.le_max_left n m)
  have h2 := iter_mono hm (Nat.le_max_right n m)
  rw [h1] at h2
  exact h2.symm
/-- a loop with an invariant and something that falls -/
theorem Loop_inv (I : σ → Prop) (μ : σ → Nat) (Q : R → Prop) (h : ∀ s, I s → (∃ s', body s = some (.inl s') ∧ I s' ∧ μ s' < μ s) ∨ (∃ r, body s = some (.inr r) ∧ Q r)) {s : σ} (hs : I s) : ∃ r, Loop body s = some r ∧ Q r := by
  have key : ∀ k s, I s → μ s < k → ∃ r, iter body k s = some r ∧ Q r := by
    intro k
    induction k with
    | zero => intro s _ h; omega
    | succ k ih =>
      intro s hs hk
      rcases h s hs with ⟨s', e, hi, hm⟩ | ⟨r, e, hq⟩
      · obtain ⟨r, e2, hq⟩ := ih s' hi (by omega)
        exact ⟨r, by simp only [iter, e]; exact e2, hq⟩
      · exact ⟨r, by simp only [iter, e], hq⟩
  obtain ⟨r, e, hq⟩ := key (μ s + 1) s hs (by omega)
  exact ⟨r, Loop_of_iter e, hq⟩
theorem Loop_invT {τ : Type} (S : τ → σ) (I : τ → Prop) (μ : τ → Nat) (Q : R → Prop) (h : ∀ t, I t → (∃ t', body (S t) = some (.inl (S t')) ∧ I t' ∧ μ t' < μ t) ∨ (∃ r, body (S t) = some (.inr r) ∧ Q r)) {t : τ} (ht : I t) : ∃ r, Loop body (S t) = some r ∧ Q r := by
  have key : ∀ k t, I t → μ t < k → ∃ r, iter body k (S t) = some r ∧ Q r := by
    intro k
    induction k with
    | zero => intro t _ h; omega
    | succ k ih =>
      intro t ht hk
      rcases h t ht with ⟨t', e, hi, hm⟩ | ⟨r, e, hq⟩
      · obtain ⟨r, e2, hq⟩ := ih t' hi (by omega)
        exact ⟨r, by simp only [iter, e]; exact e2, hq⟩
      · exact ⟨r, by simp only [iter, e], hq⟩
  obtain ⟨r, e, hq⟩ := key (μ t + 1) t ht (by omega)
  exact ⟨r, Loop_of_iter e, hq⟩
/-- a loop that counts up to some number: state k goes to state k + 1, or it ends -/
theorem Loop_nat (S : Nat → σ) (N : Nat) (Q : R → Prop) (P : Nat → Prop) (h0 : P 0) (h : ∀ k, k < N → P k → (body (S k) = some (.inl (S (k + 1))) ∧ P (k + 1)) ∨ (∃ r, body (S k) = some (.inr r) ∧ Q r)) (he : P N → ∃ r, body (S N) = some (.inr r) ∧ Q r) : ∃ r, Loop body (S 0) = some r ∧ Q r := by
  have key : ∀ d k, k + d = N → P k → ∃ r, iter body (d + 1) (S k) = some r ∧ Q r := by
    intro d
    induction d with
    | zero =>
      intro k hk hp
      have : k = N := by omega
      subst this
      obtain ⟨r, e, hq⟩ := he hp
      exact ⟨r, by simp only [iter, e], hq⟩
    | succ d ih =>
      intro k hk hp
      rcases h k (by omega) hp with ⟨e, hp'⟩ | ⟨r, e, hq⟩
      · obtain ⟨r, e2, hq⟩ := ih (k + 1) (by omega) hp'
        exact ⟨r, by rw [iter, e]; exact e2, hq⟩
      · exact ⟨r, by rw [iter, e], hq⟩
  obtain ⟨r, e, hq⟩ := key N 0 (by omega) h0
  exact ⟨r, Loop_of_iter e, hq⟩
theorem Loop_cnt (S : Nat → σ) (N : Nat) (r : R) (h : ∀ k, k < N → body (S k) = some (.inl (S (k + 1)))) (he : body (S N) = some (.inr r)) : Loop body (S 0) = some r := by
  obtain ⟨r', e, rfl⟩ := Loop_nat (body := body) S N (· = r) (fun _ => True) trivial (fun k hk _ => .inl ⟨h k hk, trivial⟩) (fun _ => ⟨r, he, rfl⟩)
  exact e
theorem bd_loopT {τ R' : Type} {K : R → Option R'} {X : Option R'} (S : τ → σ) (I : τ → Prop) (μ : τ → Nat) (Q : R → Prop) (t : τ) {s : σ} (e : s = S t) (ht : I t) (h : ∀ t, I t → (∃ t', body (S t) = some (.inl (S t')) ∧ I t' ∧ μ t' < μ t) ∨ (∃ r, body (S t) = some (.inr r) ∧ Q r)) (hk : ∀ r, Q r → K r = X) : bd (Loop body s) K = X := by
  obtain ⟨r, e1, hq⟩ := Loop_invT S I μ Q h ht
  rw [e, e1]
  exact hk r hq
theorem bd_loopN {R' : Type} {K : R → Option R'} {X : Option R'} (S : Nat → σ) (N : Nat) (Q : R → Prop) (P : Nat → Prop) {s : σ} (e : s = S 0) (h0 : P 0) (h : ∀ k, k < N → P k → (body (S k) = some (.inl (S (k + 1))) ∧ P (k + 1)) ∨ (∃ r, body (S k) = some (.inr r) ∧ Q r)) (he : P N → ∃ r, body (S N) = some (.inr r) ∧ Q r) (hk : ∀ r, Q r → K r = X) : bd (Loop body s) K = X := by
  obtain ⟨r, e1, hq⟩ := Loop_nat S N Q P h0 h he
  rw [e, e1]
  exact hk r hq
theorem loopT_all {τ R' : Type} {K : R → Option R'} (Φ : Option R' → Prop) (S : τ → σ) (I : τ → Prop) (μ : τ → Nat) (Q : R → Prop) (t : τ) {s : σ} (e : s = S t) (ht : I t) (h : ∀ t, I t → (∃ t', body (S t) = some (.inl (S t')) ∧ I t' ∧ μ t' < μ t) ∨ (∃ r, body (S t) = some (.inr r) ∧ Q r)) (hk : ∀ r, Q r → Φ (K r)) : Φ (bd (Loop body s) K) := by
  obtain ⟨r, e1, hq⟩ := Loop_invT S I μ Q h ht
  rw [e, e1]
  exact hk r hq
theorem loopN_all {R' : Type} {K : R → Option R'} (Φ : Option R' → Prop) (S : Nat → σ) (N : Nat) (Q : R → Prop) (P : Nat → Prop) {s : σ} (e : s = S 0) (h0 : P 0) (h : ∀ k, k < N → P k → (body (S k) = some (.inl (S (k + 1))) ∧ P (k + 1)) ∨ (∃ r, body (S k) = some (.inr r) ∧ Q r)) (he : P N → ∃ r, body (S N) = some (.inr r) ∧ Q r) (hk : ∀ r, Q r → Φ (K r)) : Φ (bd (Loop body s) K) := by
  obtain ⟨r, e1, hq⟩ := Loop_nat S N Q P h0 h he
  rw [e, e1]
  exact hk r hq
end
end Dn
/-
  From functions on plain values to functions on typed values. Conditions: none.
-/
set_option linter.unusedVariables false
namespace Dn
open Go
/-- a list's length, once -/
def lenN {R : Type} (l : List MV) (K : Nat → Option R) : Option R := K l.length
/-- element i of a list -/
def ix {α R : Type} (l : List α) (i : Int) (K : α → Option R) : Option R :=
  match (if 0 ≤ i then l[i.toNat]? else none) with | some x => K x | none => none
def tClone {α : Type} (bytes : Nat) (l : List α) : Option (List α) := if l.length * bytes ≤ 2 ^ 46 then some l else none
def tDelete {α : Type} (xs : List α) (i j : Int) : Option (List α) := if 0 ≤ i ∧ i ≤ j ∧ j ≤ (xs.length : Int) then some (xs.take i.toNat ++ xs.drop j.toNat) else none
def tInsert {α : Type} (bytes : Nat) (xs : List α) (i : Int) (ys : List α) : Option (List α) :=
  if 0 ≤ i ∧ i.toNat ≤ xs.length ∧ ys ≠ [] ∧ (xs.length + ys.length) * bytes ≤ 2 ^ 46 then some (xs.take i.toNat ++ ys ++ xs.drop i.toNat) else none
@[reducible] def encL {α : Type} (f : α → MV) (l : List α) : MV := .list (l.map f)
@[reducible] def encF {α : Type} (f : α → MV) (l : List α) : MV := .fresh (l.map f)

/-- the one gives just what the other gives, as a plain value -/
def Sm {A B : Type} (g : B → A) (x : Option A) (y : Option B) : Prop := x = y.map g
section
variable {A B A' B' α : Type} {g : B → A} {T : Option B}
theorem Sm.at {x x' : Option A} (e : x = x') (h : Sm g x' T) : Sm g x T := e ▸ h
theorem st_gA {l : List MV} {K : List MV → Option A} (h : Sm g (K l) T) : Sm g (gA (.agg l) K) T := h
theorem st_gB {x : Bool} {K : Bool → Option A} (h : Sm g (K x) T) : Sm g (gB (.b x) K) T := h
theorem st_gS {x : List UInt8} {K : List UInt8 → Option A} (h : Sm g (K x) T) : Sm g (gS (.s x) K) T := h
theorem st_gL {x : List MV} {K : List MV → Option A} (h : Sm g (K x) T) : Sm g (gL (.list x) K) T := h
theorem st_gH {x : Hash} {K : Hash → Option A} (h : Sm g (K x) T) : Sm g (gH (.h x) K) T := h
theorem st_gT {x : List MV} {K : List MV → Option A} (h : Sm g (K x) T) : Sm g (gT (.tup x) K) T := h
theorem st_gF {x : List MV} {K : List MV → Option A} (h : Sm g (K x) T) : Sm g (gF (.fresh x) K) T := h
theorem st_gP {x : List MV} {K : List MV → Option A} (h : Sm g (K x) T) : Sm g (gP (.rp x) K) T := h
theorem st_gFn {f : Nat} {x : List MV} {K : Nat → List MV → Option A} (h : Sm g (K f x) T) : Sm g (gFn (.func f x) K) T := h
theorem st_gRf {f : Nat} {x : List MV} {K : MV → Option A} (h : Sm g (K (.func f x)) T) : Sm g (gR (.func f x) K) T := h
theorem st_gRr {v : Value} {K : MV → Option A} (h : Sm g (K (.raw v)) T) : Sm g (gR (.raw v) K) T := h
theorem st_gI {k : IntKind} {n : Int} {K : Int → Option A} (h : Sm g (K n) T) : Sm g (gI k (.i k n) K) T := by simpa using h
theorem st_gC {m : MV} {r : List MV} {K : MV → List MV → Option A} (h : Sm g (K m r) T) : Sm g (gC (m :: r) K) T := h
theorem st_gN {K : Option A} (h : Sm g K T) : Sm g (gN [] K) T := h
theorem st_bd {x : Option A'} {y : Option B'} {f : B' → A'} {K : A' → Option A} {K' : B' → Option B} (h : Sm f x y) (hk : ∀ b, Sm g (K (f b)) (K' b)) : Sm g (bd x K) (bd y K') := by
  unfold Sm at h; subst h
  cases y with
  | none => rfl
  | some b => exact hk b
theorem st_if {p : Prop} [Decidable p] {X Y : Option A} {X' Y' : Option B} (h1 : Sm g X X') (h2 : Sm g Y Y') : Sm g (ifB (decide p) X Y) (if p then X' else Y') := by
  by_cases h : p <;> simpa [h] using (by assumption)
theorem st_ifb {c : Bool} {X Y : Option A} {X' Y' : Option B} (h1 : Sm g X X') (h2 : Sm g Y Y') : Sm g (ifB c X Y) (if c then X' else Y') := by
  cases c <;> simpa using (by assumption)
theorem st_chk {p : Prop} [Decidable p] {X : Option A} {X' : Option B} (h1 : Sm g X X') : Sm g (chk (decide p) X) (if p then X' else none) := by
  by_cases h : p
  · simpa [h] using h1
  · simp [h, chk, Sm]
theorem st_chkb {c : Bool} {X : Option A} {X' : Option B} (h1 : Sm g X X') : Sm g (chk c X) (if c then X' else none) := by
  cases c
  · simp [chk, Sm]
  · simpa using h1
theorem st_tt {c : Bool} {X : Option A} (hc : c = true) (h : Sm g X T) : Sm g (chk c X) T := by subst hc; exact h
theorem st_ifT {c : Bool} {X Y : Option A} (hc : c = true) (h : Sm g X T) : Sm g (ifB c X Y) T := by subst hc; exact h
theorem st_ifF {c : Bool} {X Y : Option A} (hc : c = false) (h : Sm g Y T) : Sm g (ifB c X Y) T := by subst hc; exact h
theorem st_len {l : List MV} {n : Nat} {K : Nat → Option A} (e : l.length = n) (h : Sm g (K n) T) : Sm g (lenN l K) T := by subst e; exact h
theorem st_idx {l : List MV} {M : List α} {f : α → MV} {i : Int} {K : MV → Option A} {K' : α → Option B} (e : l = M.map f) (h : ∀ y, Sm g (K (f y)) (K' y)) : Sm g (idx l i K) (ix M i K') := by
  subst e
  unfold idx idxO ix
  by_cases hi : 0 ≤ i
  · simp only [hi, if_true, List.getElem?_map]
    cases M[i.toNat]? with
    | none => rfl
    | some y => exact h y
  · simp only [hi, if_false]; rfl
theorem st_both {X : Option A} {T : Option B} (h : Sm g X T) : Sm g (both X X) T := by
  have e : both X X = X := by unfold both; rw [if_pos rfl]
  rw [e]; exact h
theorem st_same {C : Type} {x : Option C} {K : C → Option A} {K' : C → Option B} (h : ∀ b, Sm g (K b) (K' b)) : Sm g (bd x K) (bd x K') := by
  cases x with
  | none => rfl
  | some b => exact h b
theorem st_gFl {a : Nat} {K : Nat → Option A} (h : Sm g (K a) T) : Sm g (gFl (.raw (.float .f64 a)) K) T := h
theorem st_gCx {a b : Nat} {K : Nat → Nat → Option A} (h : Sm g (K a b) T) : Sm g (gCx (.raw (.complex .f64 a b)) K) T := h
def bysT {R : Type} (l : List Int) (K : List UInt8 → Option R) : Option R := if l.all isByte then K (l.map fun n => UInt8.ofNat n.toNat) else none
theorem bysK_map {R : Type} {M : List Int} : ∀ {K : List UInt8 → Option R}, bysK (M.map (MV.i .u8)) K = bysT M K := by
  induction M with
  | nil => intro K; rfl
  | cons n M ih =>
    intro K
    simp only [List.map_cons, bysK, byK, gI, decide_true, cond_true, ih]
    cases h : isByte n <;> simp [chk, bysT, h]
theorem st_bys {l : List MV} {M : List Int} {K : List UInt8 → Option A} {K' : List UInt8 → Option B} (e : l = M.map (MV.i .u8)) (h : ∀ b, Sm g (K b) (K' b)) : Sm g (bysK l K) (bysT M K') := by
  subst e
  rw [bysK_map]
  unfold bysT
  split
  · exact h _
  · rfl
theorem st_some {d : A} {a : B} (e : d = g a) : Sm g (some d) (some a) := by subst e; rfl
theorem st_none : Sm g none none := rfl
theorem wids_of {n : Nat} {l : List MV} {M : List α} {f : α → MV} (e : l = M.map f) (h : ∀ x, (f x).w = n) : wids n l = true := by
  subst e
  unfold wids
  rw [List.all_map, List.all_eq_true]
  intro x _
  simp [h x]
theorem iter_map {σ σ' ρ ρ' : Type} {e : σ' → σ} {f : ρ' → ρ} {K : σ → Option (Sum σ ρ)} {K' : σ' → Option (Sum σ' ρ')} (h : ∀ s, Sm (Sum.map e f) (K (e s)) (K' s)) (n : Nat) (s : σ') : iter K n (e s) = (iter K' n s).map f := by
  induction n generalizing s with
  | zero => rfl
  | succ n ih =>
    have := h s
    unfold Sm at this
    simp only [iter, this]
    cases K' s with
    | none => rfl
    | some x => cases x with
      | inl s' => exact ih s'
      | inr r => rfl
theorem Loop_none {σ ρ : Type} {K : σ → Option (Sum σ ρ)} {s : σ} (h : ∀ n, iter K n s = none) : Loop K s = none := by
  unfold Loop
  rw [dif_neg]
  rintro ⟨r, n, e⟩
  rw [h] at e; cases e
theorem st_loop {σ σ' ρ ρ' : Type} {K : σ → Option (Sum σ ρ)} {K' : σ' → Option (Sum σ' ρ')} {d0 : σ} {s0 : σ'} (e : σ' → σ) (f : ρ' → ρ) (e0 : d0 = e s0) (h : ∀ s, Sm (Sum.map e f) (K (e s)) (K' s)) : Sm f (Loop K d0) (Loop K' s0) := by
  subst e0
  unfold Sm
  by_cases hx : ∃ r n, iter K' n s0 = some r
  · obtain ⟨r, n, hn⟩ := hx
    rw [Loop_of_iter hn]
    have : iter K n (e s0) = some (f r) := by rw [iter_map h, hn]; rfl
    rw [Loop_of_iter this]; rfl
  · have h1 : ∀ n, iter K' n s0 = none := fun n => by
      cases hn : iter K' n s0 with
      | none => rfl
      | some r => exact absurd ⟨r, n, hn⟩ hx
    rw [Loop_none h1, Loop_none fun n => by rw [iter_map h, h1]; rfl]; rfl
theorem e_clone {size bytes : Nat} {f : α → MV} (hw : ∀ x, (f x).w = size) (l : List α) : Sm (encF f) (cloneF size bytes [.list (l.map f)]) (tClone bytes l) := by
  unfold Sm cloneF tClone
  simp only [wids_of (rfl : l.map f = l.map f) hw, Bool.true_and, List.length_map]
  by_cases h : l.length * bytes ≤ 2 ^ 46
  · rw [show Nat.ble (l.length * bytes) (2 ^ 46) = true from Nat.ble_eq_true_of_le h, if_pos h]; rfl
  · rw [show Nat.ble (l.length * bytes) (2 ^ 46) = false from by rw [Bool.eq_false_iff]; intro hb; exact h (Nat.le_of_ble_eq_true hb), if_neg h]; rfl
theorem e_delete {f : α → MV} (xs : List α) (i j : Int) : Sm (encF f) (deleteF [.fresh (xs.map f), .i .i64 i, .i .i64 j]) (tDelete xs i j) := by
  unfold Sm deleteF tDelete
  simp only [List.length_map]
  by_cases h1 : 0 ≤ i <;> by_cases h2 : i ≤ j <;> by_cases h3 : j ≤ (xs.length : Int) <;> simp [h1, h2, h3, encF]
theorem e_insert {bytes : Nat} {f : α → MV} (xs : List α) (i : Int) (ys : List α) : Sm (encF f) (insertF bytes [.fresh (xs.map f), .i .i64 i, .fresh (ys.map f)]) (tInsert bytes xs i ys) := by
  unfold Sm insertF tInsert
  simp only [List.length_map]
  have hb : ∀ a b : Nat, Nat.ble a b = decide (a ≤ b) := fun a b => by
    by_cases h : a ≤ b
    · rw [Nat.ble_eq_true_of_le h, decide_eq_true h]
    · rw [decide_eq_false h, Bool.eq_false_iff]; intro hh; exact h (Nat.le_of_ble_eq_true hh)
  rw [hb, hb]
  have he : (ys.map f).isEmpty = decide (ys = []) := by cases ys <;> simp
  rw [he]
  by_cases h1 : 0 ≤ i <;> by_cases h2 : i.toNat ≤ xs.length <;> by_cases h3 : ys = [] <;> by_cases h4 : (xs.length + ys.length) * bytes ≤ 2 ^ 46 <;> simp [h1, h2, h3, h4, encF]
end
/-- lists of arguments -/
abbrev lst0 (f : Option MV) : List MV → Option MV | [] => f | _ => none
abbrev lst1 (f : MV → Option MV) : List MV → Option MV | [a] => f a | _ => none
abbrev lst2 (f : MV → MV → Option MV) : List MV → Option MV | [a, b] => f a b | _ => none
abbrev lst3 (f : MV → MV → MV → Option MV) : List MV → Option MV | [a, b, c] => f a b c | _ => none
abbrev lst4 (f : MV → MV → MV → MV → Option MV) : List MV → Option MV | [a, b, c, d] => f a b c d | _ => none
abbrev lst5 (f : MV → MV → MV → MV → MV → Option MV) : List MV → Option MV | [a, b, c, d, e] => f a b c d e | _ => none
abbrev lst6 (f : MV → MV → MV → MV → MV → MV → Option MV) : List MV → Option MV | [a, b, c, d, e, h] => f a b c d e h | _ => none
abbrev lst7 (f : MV → MV → MV → MV → MV → MV → MV → Option MV) : List MV → Option MV | [a, b, c, d, e, h, i] => f a b c d e h i | _ => none
theorem lst0_of {f : Option MV} {B : List MV → Option MV} (h : B [] = f) {ms : List MV} {r : MV} (e : lst0 f ms = some r) : B ms = some r := by
  unfold lst0 at e; split at e
  · rw [h]; exact e
  · cases e
theorem lst1_of {f : MV → Option MV} {B : List MV → Option MV} (h : ∀ a, B [a] = f a) {ms : List MV} {r : MV} (e : lst1 f ms = some r) : B ms = some r := by
  unfold lst1 at e; split at e
  · rw [h]; exact e
  · cases e
theorem lst2_of {f : MV → MV → Option MV} {B : List MV → Option MV} (h : ∀ a b, B [a, b] = f a b) {ms : List MV} {r : MV} (e : lst2 f ms = some r) : B ms = some r := by
  unfold lst2 at e; split at e
  · rw [h]; exact e
  · cases e
theorem lst3_of {f : MV → MV → MV → Option MV} {B : List MV → Option MV} (h : ∀ a b c, B [a, b, c] = f a b c) {ms : List MV} {r : MV} (e : lst3 f ms = some r) : B ms = some r := by
  unfold lst3 at e; split at e
  · rw [h]; exact e
  · cases e
theorem lst4_of {f : MV → MV → MV → MV → Option MV} {B : List MV → Option MV} (h : ∀ a b c d, B [a, b, c, d] = f a b c d) {ms : List MV} {r : MV} (e : lst4 f ms = some r) : B ms = some r := by
  unfold lst4 at e; split at e
  · rw [h]; exact e
  · cases e
theorem lst5_of {f : MV → MV → MV → MV → MV → Option MV} {B : List MV → Option MV} (h : ∀ a b c d i, B [a, b, c, d, i] = f a b c d i) {ms : List MV} {r : MV} (e : lst5 f ms = some r) : B ms = some r := by
  unfold lst5 at e; split at e
  · rw [h]; exact e
  · cases e
theorem lst6_of {f : MV → MV → MV → MV → MV → MV → Option MV} {B : List MV → Option MV} (h : ∀ a b c d i j, B [a, b, c, d, i, j] = f a b c d i j) {ms : List MV} {r : MV} (e : lst6 f ms = some r) : B ms = some r := by
  unfold lst6 at e; split at e
  · rw [h]; exact e
  · cases e
theorem lst7_of {f : MV → MV → MV → MV → MV → MV → MV → Option MV} {B : List MV → Option MV} (h : ∀ a b c d i j k, B [a, b, c, d, i, j, k] = f a b c d i j k) {ms : List MV} {r : MV} (e : lst7 f ms = some r) : B ms = some r := by
  unfold lst7 at e; split at e
  · rw [h]; exact e
  · cases e
/-- a function of the program's, as a function of its arguments -/
theorem SoundG.fn {P : Program} {c c' : Ctx} {g : Nat → List MV → Option MV} {n : Nat} {fn : Func} {caps : List (List Kd)} {F : List MV → Option MV} (h : SoundG P c g) (hl : Like c c') (hgg : c'.g = g) (hti : TIok P c.ti) (heq : EqOK P c.ti) (hfk : ∀ t k, c.fk t = some k → P.underlying t = some (.float k)) (hmt : MapTys P c) (hmix : P.follows .mixedOrders = true)
    (hf : P.funcs[n]? = some fn) (hh : headB c' n fn caps = true) (hkey : ∀ f, c.key f = f) (hF : ∀ {ms r}, F ms = some r → bodyK c' caps Option.none fn ms = some r) : SoundG P c (addG n F g) := by
  have hb := SoundG.body h hl hgg hti heq hfk hmt hmix hf hh hkey
  refine h.add (fun f ms r hk hr => ?_)
  refine hb.all f ms r ?_
  unfold addG
  rw [hk]
  simp [hF hr]
end Dn
/-
  What functions of package strings yield: plain and typed. Conditions: none.
-/
set_option linter.unusedSimpArgs false
set_option linter.unusedVariables false
namespace Dn
open Go

/-- what a text is between bytes -/
def splitL (c : UInt8) : List UInt8 → List (List UInt8)
  | [] => [[]]
  | x :: l => if x = c then [] :: splitL c l else match splitL c l with
    | p :: r => (x :: p) :: r
    | [] => [[x]]
def trimF : List MV → Option MV
  | [.s a, .s b] => bif (Nat.ble 1 a.length && Nat.ble a.length (2 ^ 46)) && (Nat.ble 2 b.length && (Nat.ble b.length 1000 && b.all fun x => decide (x.toNat < 128))) then some (.s (Lib.trimS a b)) else none
  | _ => none
def hasRuneF : List MV → Option MV
  | [.s a, .i .i32 r] => bif decide (0 ≤ r ∧ r < 128) then some (.b (decide (0 ≤ Lib.indexByte a r.toNat.toUInt8))) else none
  | _ => none
def splitF : List MV → Option MV
  | [.s a, .s [c]] => bif Nat.ble a.length 4294967280 then some (.fresh ((splitL c a).map MV.s)) else none
  | _ => none


def tTrim (a b : List UInt8) : Option (List UInt8) := bif (Nat.ble 1 a.length && Nat.ble a.length (2 ^ 46)) && (Nat.ble 2 b.length && (Nat.ble b.length 1000 && b.all fun x => decide (x.toNat < 128))) then some (Lib.trimS a b) else none
def tHasRune (a : List UInt8) (r : Int) : Option Bool := bif decide (0 ≤ r ∧ r < 128) then some (decide (0 ≤ Lib.indexByte a r.toNat.toUInt8)) else none
def tSplit (a s : List UInt8) : Option (List (List UInt8)) := match s with
  | [c] => bif Nat.ble a.length 4294967280 then some (splitL c a) else none
  | _ => none
theorem e_trim (a b : List UInt8) : Sm MV.s (trimF [.s a, .s b]) (tTrim a b) := by
  unfold Sm trimF tTrim
  dsimp only
  cases (Nat.ble 1 a.length && Nat.ble a.length (2 ^ 46)) && (Nat.ble 2 b.length && (Nat.ble b.length 1000 && b.all fun x => decide (x.toNat < 128))) <;> rfl
theorem e_hasRune (a : List UInt8) (r : Int) : Sm MV.b (hasRuneF [.s a, .i .i32 r]) (tHasRune a r) := by
  unfold Sm hasRuneF tHasRune
  dsimp only
  cases decide (0 ≤ r ∧ r < 128) <;> rfl
theorem e_split (a s : List UInt8) : Sm (encF MV.s) (splitF [.s a, .s s]) (tSplit a s) := by
  unfold Sm tSplit
  split
  · rename_i c
    unfold splitF
    dsimp only
    cases Nat.ble a.length 4294967280 <;> rfl
  · rename_i h
    unfold splitF
    split
    · rename_i h2
      simp only [List.cons.injEq, MV.s.injEq, and_true] at h2
      exact absurd h2.2 (h _)
    · rfl
end Dn
/-
  Functions of package strings as table entries, by the shelf's contracts. Conditions: none.
-/
set_option linter.unusedSimpArgs false
set_option linter.unusedVariables false
namespace Dn
open Go

theorem splitK_eq (c : UInt8) : ∀ l : List UInt8, Lib.splitK [c] 0 (Lib.count l [c]) l = splitL c l := by
  intro l
  induction l with
  | nil => rw [Lib.count_one]; rfl
  | cons b l ih =>
    by_cases hb : b = c
    · subst hb
      have hix : Lib.index (b :: l) [b] = 0 := by rw [Lib.index]; simp [List.isPrefixOf]
      rw [Lib.count_cons_eq, Nat.add_comm, Lib.splitK, hix]
      simp [splitL, ih]
    · rw [Lib.count_cons_ne b c l hb]
      have hp : ([c] : List UInt8).isPrefixOf (b :: l) = false := by simp [List.isPrefixOf, Ne.symm hb]
      have hix : Lib.index (b :: l) [c] = if Lib.index l [c] == -1 then -1 else Lib.index l [c] + 1 := by rw [Lib.index, hp]; simp
      simp only [splitL, hb, if_false]
      rw [← ih]
      cases hk : Lib.count l [c] with
      | zero => rfl
      | succ k =>
        have hne : Lib.index l [c] ≠ -1 := by intro he; rw [Lib.count_miss he] at hk; cases hk
        have hge := Lib.index_ge l [c]
        obtain ⟨j, hj⟩ : ∃ j : Nat, Lib.index l [c] = j := ⟨(Lib.index l [c]).toNat, by omega⟩
        have hne' : (Lib.index l [c] == -1) = false := by simpa using hne
        rw [hne', if_neg (by decide)] at hix
        have hne2 : (Lib.index (b :: l) [c] == -1) = false := by rw [hix, hj]; simp; omega
        rw [Lib.splitK, Lib.splitK, hne', hne2, hix, hj]
        have e1 : ((j : Int) + 1).toNat = j + 1 := by omega
        simp [e1]
theorem splitB_eq (c : UInt8) (s : ByteArray) : (Lib.splitB ⟨#[c]⟩ 0 (Lib.countB s ⟨#[c]⟩) s).map (·.data.toList) = splitL c s.data.toList := by
  rw [Lib.splitB_data]
  exact splitK_eq c _

section
variable {P : Program} {ρ : Go.Shelf.Ren} {c : Ctx}

theorem callOK_of {f : FuncId} {args : Array Value} {w : World} {S : Ending → World → Prop} {R : Value → World → Prop} (he : ∀ args w, (callFunc f args).run P w = .ok (.enter f args) w) (hc : Calls P f args w S) (h : ∀ e w', S e w' → ∃ v, e = .returned v ∧ R v w') :
    CallOK P f args w R := by
  unfold CallOK
  rw [he]
  exact hc.mono h
theorem rep_str {key : Nat → Nat} {φ : Ph} {v : Value} {l : List UInt8} (h : Rep key φ [v] (.s l)) : ∃ b : ByteArray, v = .string b ∧ b.data.toList = l := by
  generalize hv : [v] = vs at h
  cases h
  rename_i b
  exact ⟨b, by simpa using hv, rfl⟩
theorem args_ss {Z : Nat → Prop} {φ : Ph} {w : World} {k : Nat} {vs : List Value} {a b : List UInt8} (hg : c.gives k = false) (h : ArgsIn c Z φ w k vs [.s a, .s b]) : ∃ x y : ByteArray, vs = [.string x, .string y] ∧ x.data.toList = a ∧ y.data.toList = b := by
  simp only [ArgsIn, hg, Bool.false_eq_true, if_false] at h
  obtain ⟨v, u, rfl, ⟨_, h1⟩, v2, u2, rfl, ⟨_, h2⟩, rfl⟩ := h
  obtain ⟨x, rfl, hx⟩ := rep_str h1
  obtain ⟨y, rfl, hy⟩ := rep_str h2
  exact ⟨x, y, rfl, hx, hy⟩
theorem args_si {Z : Nat → Prop} {φ : Ph} {w : World} {k : Nat} {kd : IntKind} {vs : List Value} {a : List UInt8} {n : Int} (hg : c.gives k = false) (h : ArgsIn c Z φ w k vs [.s a, .i kd n]) : ∃ x : ByteArray, vs = [.string x, .int kd n] ∧ x.data.toList = a := by
  simp only [ArgsIn, hg, Bool.false_eq_true, if_false] at h
  obtain ⟨v, u, rfl, ⟨_, h1⟩, v2, u2, rfl, ⟨_, h2⟩, rfl⟩ := h
  obtain ⟨x, rfl, hx⟩ := rep_str h1
  generalize hv : [v2] = vs at h2
  cases h2
  simp at hv
  subst hv
  exact ⟨x, rfl, hx⟩
theorem rest_drew (w : World) (q : Nat) : Rest w (w.drewN q) := ⟨rfl, rfl, rfl, fun _ => rfl⟩

theorem new_none {φ : Ph} {w : World} (hi : Imm φ w) {b : Nat} (hb : w.heap.size ≤ b) (off : Nat) : φ b off = none := by
  cases hp : φ b off with
  | none => rfl
  | some u =>
    have := World.block_lt_of_cell? w _ (hi _ _ _ hp)
    simp at this
    omega
theorem trim_ok (L : Go.Proofs.Lays.n160 P ρ) (h116 : (P.info? (ρ.t 116)).map (fun i => (i.zero, i.size)) = some (some (.agg (Array.replicate 256 (.bool false))), 256)) (hg : c.gives (c.key (ρ.f 160)) = false) {ms : List MV} {r : MV} (h : trimF ms = some r) :
    Sound1 P c (ρ.f 160) ms r := by
  unfold trimF at h
  split at h
  · rename_i a b
    cases hb : (Nat.ble 1 a.length && Nat.ble a.length (2 ^ 46)) && (Nat.ble 2 b.length && (Nat.ble b.length 1000 && b.all fun x => decide (x.toNat < 128))) with
    | false => rw [hb] at h; cases h
    | true =>
      rw [hb] at h
      simp only [cond_true, Option.some.injEq] at h
      subst h
      simp only [Bool.and_eq_true] at hb
      obtain ⟨⟨h1, h2⟩, h3, h4, h5⟩ := hb
      have h1 := Nat.le_of_ble_eq_true h1
      have h2 := Nat.le_of_ble_eq_true h2
      have h3 := Nat.le_of_ble_eq_true h3
      have h4 := Nat.le_of_ble_eq_true h4
      intro φ w Z vs hz ha hi
      obtain ⟨x, y, rfl, rfl, rfl⟩ := args_ss hg ha
      refine callOK_of (Go.Proofs.enters_of L.f160 (by kernel_rfl) rfl) (Go.Proofs.Any.strings_Trim_set L (Go.zero_of_info h116).1 (Go.zero_of_info h116).2 x y w (by rw [Lib.size_eq]; exact h3) (by rw [Lib.size_eq]; omega) (by rw [Lib.size_eq]; omega) (by rw [Lib.size_eq]; omega) (Go.Proofs.ascii_of_all h5)) ?_
      rintro e w' ⟨rfl, q, rfl⟩
      refine ⟨_, rfl, φ, ?_, ?_, ?_⟩
      · have g1 := Grow.alloc w (Lib.setCells y.data.toList) (ρ.t 116)
        have g2 := Grow.alloc (w.alloc (.cells (Lib.setCells y.data.toList) (ρ.t 116))) (Lib.setCells y.data.toList) (ρ.t 116)
        have g := g1.trans' g2
        exact ⟨.refl φ, fun b _ hl => g.old b hl, fun _ _ _ => rfl, g.size, g.rest.trans (rest_drew _ q)⟩
      · intro b o v hv
        have g1 := Grow.alloc w (Lib.setCells y.data.toList) (ρ.t 116)
        have g2 := Grow.alloc (w.alloc (.cells (Lib.setCells y.data.toList) (ρ.t 116))) (Lib.setCells y.data.toList) (ρ.t 116)
        exact (g1.trans' g2).cell (hi b o v hv)
      · exact ⟨rfl, by have := Rep.s (key := c.key) (φ := φ) (⟨(Lib.trimS x.data.toList y.data.toList).toArray⟩ : ByteArray); simpa using this⟩
  · cases h
theorem hasRune_ok (L : Go.Proofs.Lays.n151 P ρ) (hg : c.gives (c.key (ρ.f 151)) = false) {ms : List MV} {r : MV} (h : hasRuneF ms = some r) : Sound1 P c (ρ.f 151) ms r := by
  unfold hasRuneF at h
  split at h
  · rename_i a n
    cases hb : decide (0 ≤ n ∧ n < 128) with
    | false => rw [hb] at h; cases h
    | true =>
      rw [hb] at h
      simp only [cond_true, Option.some.injEq] at h
      subst h
      obtain ⟨h1, h2⟩ := of_decide_eq_true hb
      intro φ w Z vs hz ha hi
      obtain ⟨x, rfl, rfl⟩ := args_si hg ha
      refine callOK_of (Go.Proofs.enters_of L.f151 (by kernel_rfl) rfl) (Go.Proofs.Any.strings_ContainsRune_ascii L x n w h1 h2) ?_
      rintro e w' ⟨rfl, rfl⟩
      exact ⟨_, rfl, φ, .refl _ _ _, hi, rfl, .b _⟩
  · cases h

open Go.Proofs Go.Shelf Go.RowKit in
theorem split_one (L : Go.Proofs.Lays.n146 P ρ) (hi9 : (P.info? (ρ.t 9)).map (fun i => (i.zero, i.size, i.bytes)) = some (some (.string ByteArray.empty), 1, 16)) (s : ByteArray) (b : UInt8) (w : World) (hs : s.size < 4294967281) :
    Calls P (ρ.f 146) #[.string s, .string ⟨#[b]⟩] w fun e w' =>
      e = .returned (.slice (some ⟨w.heap.size, 0, none⟩) (Lib.countB s ⟨#[b]⟩ + 1) (Lib.countB s ⟨#[b]⟩ + 1)) ∧ w' = w.alloc (.cells ((Lib.splitB ⟨#[b]⟩ 0 (Lib.countB s ⟨#[b]⟩) s).map Value.string).toArray (ρ.t 9)) := by
  have h1 : 1 ≤ (⟨#[b]⟩ : ByteArray).size := Nat.le_refl _
  have hle := Lib.countB_le ⟨#[b]⟩ h1 s.size s (Nat.le_refl _)
  have hlen := Lib.splitB_all ⟨#[b]⟩ h1 0 _ s rfl
  have hC : Calls P (ρ.f 138) #[.string s, .string ⟨#[b]⟩] w fun e w' => e = .returned (.int .i64 (Lib.countB s ⟨#[b]⟩)) ∧ w' = w := by
    refine (Any.strings_Count_one { L with } s b w).mono fun e w' ⟨he, hw⟩ => ⟨?_, hw⟩
    rw [he]
    show _ = Ending.returned (Value.int .i64 ((Lib.count s.data.toList [b] : Nat) : Int))
    rw [Lib.count_one]
    rfl
  have c := Any.strings_genSplit_core { L with } hi9 s ⟨#[b]⟩ 0 (-1) (Lib.countB s ⟨#[b]⟩ + 1) w hs h1 (Nat.zero_le _)
    (fun x q hx => (Any.strings_Index_one { L with } x b _).mono fun e w' ⟨he, hw⟩ => ⟨by rw [he]; show _ = Ending.returned (Value.int .i64 (Lib.index x.data.toList [b])); rw [Lib.index_one], hw⟩)
    hC (by decide) (by decide) (by rw [if_pos (by decide)]; omega)
  rw [Nat.add_sub_cancel, hlen] at c
  have e2 : Lib.cellsOf (Lib.splitB ⟨#[b]⟩ 0 (Lib.countB s ⟨#[b]⟩) s) (Lib.countB s ⟨#[b]⟩ + 1) = ((Lib.splitB ⟨#[b]⟩ 0 (Lib.countB s ⟨#[b]⟩) s).map Value.string).toArray := by rw [← hlen]; exact Lib.cellsOf_full _
  rw [e2] at c
  clear hC hlen hle e2
  have t3 := L.t3; have t9 := L.t9; have t31 := L.t31
  have a3 := L.a3; have a9 := L.a9; have a31 := L.a31
  have z3 := L.z3; have v3 := L.v3; have z9 := L.z9; have v9 := L.v9; have z31 := L.z31; have v31 := L.v31
  have e221 : ∀ args w, (callFunc (ρ.f 221) args).run P w = .ok (.enter (ρ.f 221) args) w := enters_of L.f221 (by kernel_rfl) rfl
  go_enter L.f146, Body.n146_ntmps ρ
  go_wp2_with (go_at_fn (ρ.f 221); refine c.mono ?_; rintro e w' ⟨rfl, hw⟩; rw [hw])
  go_ret
  exact ⟨rfl, rfl⟩
theorem strs_elems {key : Nat → Nat} {φ : Ph} : ∀ l : List ByteArray, ElemsRep key φ 1 (l.map Value.string) (l.map fun b => MV.s b.data.toList)
  | [] => rfl
  | b :: l => ⟨[.string b], _, rfl, rfl, .s b, strs_elems l⟩
theorem split_ok {I : TI} (L : Go.Proofs.Lays.n146 P ρ) (hi9 : (P.info? (ρ.t 9)).map (fun i => (i.zero, i.size, i.bytes)) = some (some (.string ByteArray.empty), 1, 16)) (hg : c.gives (c.key (ρ.f 146)) = false)
    (hty : c.fty (c.key (ρ.f 146)) = ρ.t 9) (hI : c.tv (ρ.t 9) = some I) (hI1 : I.size = 1) {ms : List MV} {r : MV} (h : splitF ms = some r) : Sound1 P c (ρ.f 146) ms r := by
  unfold splitF at h
  split at h
  · rename_i a b
    cases hb : Nat.ble a.length 4294967280 with
    | false => rw [hb] at h; cases h
    | true =>
      rw [hb] at h
      simp only [cond_true, Option.some.injEq] at h
      subst h
      have hb := Nat.le_of_ble_eq_true hb
      intro φ w Z vs hz ha hi
      obtain ⟨x, y, rfl, rfl, hy⟩ := args_ss hg ha
      have hy' : y = ⟨#[b]⟩ := by
        cases y with
        | mk d => congr 1; apply Array.toList_inj.1; exact hy
      subst hy'
      have hs : x.size < 4294967281 := by rw [Lib.size_eq]; omega
      refine callOK_of (Go.Proofs.enters_of L.f146 (by kernel_rfl) rfl) (split_one L hi9 x b w hs) ?_
      rintro e w' ⟨rfl, rfl⟩
      have h1 : 1 ≤ (⟨#[b]⟩ : ByteArray).size := Nat.le_refl _
      have hle := Lib.countB_le ⟨#[b]⟩ h1 x.size x (Nat.le_refl _)
      have hlen := Lib.splitB_all ⟨#[b]⟩ h1 0 _ x rfl
      have heq := splitB_eq b x
      have g1 := Grow.alloc w ((Lib.splitB ⟨#[b]⟩ 0 (Lib.countB x ⟨#[b]⟩) x).map Value.string).toArray (ρ.t 9)
      obtain ⟨hti, hc⟩ := tv_some hI
      refine ⟨_, rfl, φ, g1.trans (Z := Zone.plain Z) hz φ, fun b' o v hv => g1.cell (hi b' o v hv), ?_⟩
      show FamOK _ _ _ _ _ ⟨c.fty (c.key (ρ.f 146)), false, _⟩
      rw [hty]
      generalize hpc : Lib.splitB ⟨#[b]⟩ 0 (Lib.countB x ⟨#[b]⟩) x = pcs at *
      rw [← heq, List.map_map]
      refine ⟨I, pcs.map Value.string, hti, hc, ?_, by rw [hI1]; exact strs_elems pcs, ?_⟩
      · rw [hI1]
        refine ⟨by simp, .inr ⟨w.heap.size, Lib.countB x ⟨#[b]⟩ + 1, _, by simp [hlen], Nat.zero_le _, heap_alloc_new w _, by simp [hlen], by unfold Go.maxLen; rw [Lib.size_eq] at hle; omega, by simp [hlen], ?_⟩⟩
        simp [List.take_of_length_le]
      · intro blk hblk
        simp [Value.ownBlock] at hblk
        subst hblk
        exact ⟨hz _ (Nat.le_refl _), fun off u hu => (by have hu : φ w.heap.size off = some u := hu; rw [new_none hi (Nat.le_refl _)] at hu; cases hu), fun hc => False.elim hc⟩
  · cases h
end
end Dn
/-
  Reasoning about functions on typed values. Conditions: none.
-/
set_option linter.unusedVariables false
namespace Dn
open Go
section
variable {α R : Type}
theorem ix_nat {l : List α} {k : Nat} (h : k < l.length) (K : α → Option R) : ix l (k : Int) K = K l[k] := by
  simp [ix, h]
theorem ix_int {l : List α} {i : Int} (h0 : 0 ≤ i) (h : i.toNat < l.length) (K : α → Option R) : ix l i K = K l[i.toNat] := by
  simp [ix, h, h0]
theorem ix_zero {l : List α} (h : 0 < l.length) (K : α → Option R) : ix l 0 K = K l[0] := by simp [ix, h]
theorem if_t {c : Prop} [Decidable c] (h : c) (x y : α) : (if c then x else y) = x := if_pos h
theorem bd_some' {A : Type} {x : Option A} {a : A} (h : x = some a) (K : A → Option R) : bd x K = K a := by rw [h]; rfl
theorem bd_if {A : Type} (c : Prop) [Decidable c] (x y : Option A) (K : A → Option R) : bd (if c then x else y) K = if c then bd x K else bd y K := by split <;> rfl
@[simp] theorem bd_id {A : Type} (x : Option A) : bd x (fun a => some a) = x := by cases x <;> rfl
theorem bd_ix {A : Type} (l : List α) (i : Int) (k : α → Option A) (K : A → Option R) : bd (ix l i k) K = ix l i fun a => bd (k a) K := by
  unfold ix; split <;> rfl
theorem bd_bd {A B : Type} (x : Option A) (k : A → Option B) (K : B → Option R) : bd (bd x k) K = bd x fun a => bd (k a) K := by cases x <;> rfl
end
/-- it gives something that .. -/
def Gives {A : Type} (x : Option A) (Q : A → Prop) : Prop := ∃ a, x = some a ∧ Q a
section
variable {A B α σ ρ : Type}
theorem Gives.mk {a : A} {Q : A → Prop} (h : Q a) : Gives (some a) Q := ⟨a, rfl, h⟩
theorem Gives.of {x : Option A} {a : A} {Q : A → Prop} (e : x = some a) (h : Q a) : Gives x Q := ⟨a, e, h⟩
theorem Gives.bd {x : Option A} {K : A → Option B} {P : A → Prop} {Q : B → Prop} (h : Gives x P) (hk : ∀ a, P a → Gives (K a) Q) : Gives (bd x K) Q := by
  obtain ⟨a, rfl, hp⟩ := h; exact hk a hp
theorem Gives.ite {c : Prop} [Decidable c] {x y : Option A} {Q : A → Prop} (h1 : c → Gives x Q) (h2 : ¬ c → Gives y Q) : Gives (if c then x else y) Q := by
  split
  · exact h1 ‹_›
  · exact h2 ‹_›
theorem Gives.req {c : Prop} [Decidable c] {x : Option A} {Q : A → Prop} (h : c) (h1 : Gives x Q) : Gives (if c then x else none) Q := by rw [if_pos h]; exact h1
theorem Gives.imp {x : Option A} {P Q : A → Prop} (h : Gives x P) (hpq : ∀ a, P a → Q a) : Gives x Q := by
  obtain ⟨a, e, hp⟩ := h; exact ⟨a, e, hpq a hp⟩
theorem Gives.ix {l : List α} {k : Nat} {K : α → Option A} {Q : A → Prop} (h : k < l.length) (hk : Gives (K l[k]) Q) : Gives (ix l (k : Int) K) Q := by rw [ix_nat h]; exact hk
theorem Gives.eq {x : Option A} {a : A} (h : Gives x (· = a)) : x = some a := by obtain ⟨b, e, rfl⟩ := h; exact e

variable {body : σ → Option (Sum σ ρ)}
/-- a loop, by what holds at its head and what falls -/
theorem Gives.loop (I : σ → Prop) (μ : σ → Nat) {Q : ρ → Prop} {s : σ} (hs : I s) (h : ∀ s, I s → Gives (body s) fun x => match x with | .inl s' => I s' ∧ μ s' < μ s | .inr r => Q r) : Gives (Loop body s) Q := by
  refine Loop_inv I μ Q (fun s hs => ?_) hs
  obtain ⟨x, e, hx⟩ := h s hs
  cases x with
  | inl s' => exact .inl ⟨s', e, hx⟩
  | inr r => exact .inr ⟨r, e, hx⟩
/-- a loop whose states are known: the k-th, up to the n-th, at which it ends -/
theorem Gives.count (S : Nat → σ) (n : Nat) {Q : ρ → Prop} (P : Nat → Prop) {s : σ} (e : s = S 0) (h0 : P 0) (h : ∀ k, k < n → P k → Gives (body (S k)) fun x => match x with | .inl s' => s' = S (k + 1) ∧ P (k + 1) | .inr r => Q r)
    (he : P n → Gives (body (S n)) fun x => match x with | .inl _ => False | .inr r => Q r) : Gives (Loop body s) Q := by
  subst e
  refine Loop_nat S n Q P h0 (fun k hk hp => ?_) (fun hp => ?_)
  · obtain ⟨x, e, hx⟩ := h k hk hp
    cases x with
    | inl s' => obtain ⟨rfl, hx⟩ := hx; exact .inl ⟨e, hx⟩
    | inr r => exact .inr ⟨r, e, hx⟩
  · obtain ⟨x, e, hx⟩ := he hp
    cases x with
    | inl s' => exact hx.elim
    | inr r => exact ⟨r, e, hx⟩
/-- a list, looked through from its head on: state b, element a; or it ends early -/
def scan {α β ρ : Type} (f : Nat → β → α → Sum β ρ) (fin : β → ρ) : List α → Nat → β → ρ
  | [], _, b => fin b
  | a :: l, k, b => match f k b a with
    | .inl b' => scan f fin l (k + 1) b'
    | .inr r => r
/-- a loop that looks through a list -/
theorem Loop_scan {β : Type} (L : List α) (S : β → Int → σ) (I : Nat → β → Prop) (f : Nat → β → α → Sum β ρ) (fin : β → ρ) {b0 : β} {s : σ} (e0 : s = S b0 0) (h0 : I 0 b0)
    (h : ∀ k b (hk : k < L.length), I k b → body (S b (k : Int)) = some (match f k b L[k] with | .inl b' => .inl (S b' ((k + 1 : Nat) : Int)) | .inr r => .inr r) ∧ ∀ b', f k b L[k] = .inl b' → I (k + 1) b')
    (he : ∀ b, I L.length b → body (S b (L.length : Int)) = some (.inr (fin b))) : Loop body s = some (scan f fin L 0 b0) := by
  subst e0
  have key : ∀ d k b, k + d = L.length → I k b → ∃ n, iter body n (S b (k : Int)) = some (scan f fin (L.drop k) k b) := by
    intro d
    induction d with
    | zero =>
      intro k b hk hi
      have : k = L.length := by omega
      subst this
      exact ⟨1, by simp [iter, he b hi, scan]⟩
    | succ d ih =>
      intro k b hk hi
      have hkl : k < L.length := by omega
      obtain ⟨h1, h2⟩ := h k b hkl hi
      rw [List.drop_eq_getElem_cons hkl]
      simp only [scan]
      cases hf : f k b L[k] with
      | inl b' =>
        obtain ⟨n, hn⟩ := ih (k + 1) b' (by omega) (h2 b' hf)
        refine ⟨n + 1, ?_⟩
        simp only [iter, h1, hf]
        exact hn
      | inr r => exact ⟨1, by simp only [iter, h1, hf]⟩
  obtain ⟨n, hn⟩ := key L.length 0 b0 (by omega) h0
  rw [List.drop_zero] at hn
  exact Loop_of_iter hn
end
theorem wrap64 {x : Int} (h1 : -9223372036854775808 ≤ x) (h2 : x ≤ 9223372036854775807) : IntKind.wrap .i64 x = x := wrap_id h1 h2
/-- numbers of a kind, and of no more than a slice can be long -/
def InI (n : Int) : Prop := -9223372036854775808 ≤ n ∧ n ≤ 9223372036854775807
end Dn
/-
  Functions of the library, on typed values. Conditions: none.
-/
set_option linter.unusedVariables false
namespace Dn
open Go
def cmp3 (x y : Int) : Int := if x < y then -1 else if y < x then 1 else 0
/-- so many stand ahead of a number -/
def lbK {α : Type} (key : α → Int) (L : List α) (s : Int) : Nat := L.countP (fun e => decide (key e < s))
def hasK {α : Type} (key : α → Int) (L : List α) (s : Int) : Bool := L.any fun e => decide (key e = s)
def IncK {α : Type} (key : α → Int) (L : List α) : Prop := L.Pairwise fun a b => key a < key b
section
variable {α τ : Type} {key : α → Int}
theorem lbK_eq {L : List α} {s : Int} {p : Nat} (hp : p ≤ L.length) (h1 : ∀ k (hk : k < L.length), k < p → key L[k] < s) (h2 : ∀ k (hk : k < L.length), p ≤ k → s ≤ key L[k]) : lbK key L s = p := by
  have h3 : (L.take p).countP (fun e => decide (key e < s)) = (L.take p).length := by
    rw [List.countP_eq_length]
    intro a ha
    obtain ⟨k, hk, rfl⟩ := List.mem_iff_getElem.1 ha
    have hk2 : k < p := by rw [List.length_take] at hk; omega
    rw [List.getElem_take]
    exact decide_eq_true (h1 k (by omega) hk2)
  have h4 : (L.drop p).countP (fun e => decide (key e < s)) = 0 := by
    rw [List.countP_eq_zero]
    intro a ha
    obtain ⟨k, hk, rfl⟩ := List.mem_iff_getElem.1 ha
    rw [List.length_drop] at hk
    rw [List.getElem_drop]
    have := h2 (p + k) (by omega) (by omega)
    simp; omega
  have h5 : lbK key L s = (L.take p ++ L.drop p).countP (fun e => decide (key e < s)) := by rw [List.take_append_drop]; rfl
  rw [h5, List.countP_append, h3, h4, List.length_take]
  omega
theorem IncK.lt {L : List α} (hs : IncK key L) {i j : Nat} (hj : j < L.length) (h : i < j) : key (L[i]'(by omega)) < key L[j] := List.pairwise_iff_getElem.1 hs i j (by omega) hj h
theorem IncK.le {L : List α} (hs : IncK key L) {i j : Nat} (hj : j < L.length) (h : i ≤ j) : key (L[i]'(by omega)) ≤ key L[j] := by
  rcases Nat.lt_or_eq_of_le h with h | h
  · exact Int.le_of_lt (hs.lt hj h)
  · subst h; exact Int.le_refl _
theorem lbK_le (L : List α) (s : Int) : lbK key L s ≤ L.length := List.countP_le_length
/-- what stands where a number is, or would be -/
theorem IncK.lb {L : List α} (hs : IncK key L) (s : Int) : (∀ k (hk : k < L.length), k < lbK key L s → key L[k] < s) ∧ (∀ k (hk : k < L.length), lbK key L s ≤ k → s ≤ key L[k]) := by
  have : ∃ p, p ≤ L.length ∧ (∀ k (hk : k < L.length), k < p → key L[k] < s) ∧ (∀ k (hk : k < L.length), p ≤ k → s ≤ key L[k]) := by
    induction L with
    | nil => exact ⟨0, Nat.le_refl _, fun k hk => by simp at hk, fun k hk => by simp at hk⟩
    | cons a l ih =>
      have hs' := List.pairwise_cons.1 hs
      by_cases ha : key a < s
      · obtain ⟨p, h1, h2, h3⟩ := ih hs'.2
        refine ⟨p + 1, by simp; omega, fun k hk hkp => ?_, fun k hk hkp => ?_⟩
        · cases k with
          | zero => exact ha
          | succ k => exact h2 k (by simpa using hk) (by omega)
        · cases k with
          | zero => omega
          | succ k => exact h3 k (by simpa using hk) (by omega)
      · refine ⟨0, Nat.zero_le _, fun k hk hkp => by omega, fun k hk _ => ?_⟩
        cases k with
        | zero => simp; omega
        | succ k =>
          have := hs'.1 (l[k]'(by simpa using hk)) (List.getElem_mem _)
          simp only [List.getElem_cons_succ]; omega
  obtain ⟨p, h1, h2, h3⟩ := this
  rw [lbK_eq h1 h2 h3]
  exact ⟨h2, h3⟩
theorem IncK.has {L : List α} (hs : IncK key L) (s : Int) : hasK key L s = true ↔ ∃ h : lbK key L s < L.length, key L[lbK key L s] = s := by
  obtain ⟨h1, h2⟩ := hs.lb s
  unfold hasK
  rw [List.any_eq_true]
  constructor
  · rintro ⟨x, hx, he⟩
    obtain ⟨k, hk, rfl⟩ := List.mem_iff_getElem.1 hx
    have he : key L[k] = s := by simpa using he
    have hge : lbK key L s ≤ k := by
      refine Nat.le_of_not_lt fun hlt => ?_
      have := h1 k hk hlt; omega
    have hl : lbK key L s < L.length := by omega
    refine ⟨hl, ?_⟩
    have := h2 _ hl (Nat.le_refl _)
    have := hs.le hk hge
    omega
  · rintro ⟨h, he⟩
    exact ⟨_, List.getElem_mem h, decide_eq_true he⟩
theorem hasK_iff {L : List α} {s : Int} : hasK key L s = true ↔ ∃ x ∈ L, key x = s := by simp [hasK]
noncomputable def bsL (x : List α) (target : τ) (cmp : α → τ → Option Int) (st : Int × Int) : Option ((Int × Int) ⊕ Int) :=
  if st.1 < st.2 then
  if (0 : Int) ≤ 1 then
  ix x (IntKind.wrap .i64 (Int.fdiv (IntKind.wrap .u64 (IntKind.wrap .i64 (st.1 + st.2))) (2 ^ min (Int.toNat 1) (IntKind.bits .u64)))) fun y =>
  bd (cmp y target) fun rA =>
  bd (
    if rA < 0 then
    some (IntKind.wrap .i64 ((IntKind.wrap .i64 (Int.fdiv (IntKind.wrap .u64 (IntKind.wrap .i64 (st.1 + st.2))) (2 ^ min (Int.toNat 1) (IntKind.bits .u64)))) + 1), st.2)
    else
    some (st.1, IntKind.wrap .i64 (Int.fdiv (IntKind.wrap .u64 (IntKind.wrap .i64 (st.1 + st.2))) (2 ^ min (Int.toNat 1) (IntKind.bits .u64)))) : Option (Int × Int)) fun w1 =>
  some (.inl (w1.1, w1.2))
  else none
  else
  some (.inr st.1)
noncomputable def bsearch (x : List α) (target : τ) (cmp : α → τ → Option Int) : Option (Int × Bool) :=
  bd (Loop (bsL x target cmp) (0, (x.length : Int))) fun w =>
  bd (
    if w < (x.length : Int) then
    ix x w fun y1 =>
    bd (cmp y1 target) fun rA1 =>
    some (w, decide (rA1 = 0))
    else
    some (w, false) : Option (Int × Bool)) fun w2 =>
  some (w2.1, w2.2)
/-- a search in what is in order -/
theorem bsearch_eq {L : List α} {s : Int} {cmp : α → Int → Option Int} (hs : IncK key L) (hl : L.length < 2 ^ 60) (hc : ∀ a, cmp a s = some (cmp3 (key a) s)) : bsearch L s cmp = some ((lbK key L s : Int), hasK key L s) := by
  obtain ⟨hb1, hb2⟩ := hs.lb s
  have hle := lbK_le (key := key) L s
  have hloop : Loop (bsL L s cmp) (0, (L.length : Int)) = some (lbK key L s : Int) := by
    refine Gives.eq (Gives.loop (fun st => ∃ i j : Nat, st = ((i : Int), (j : Int)) ∧ i ≤ lbK key L s ∧ lbK key L s ≤ j ∧ j ≤ L.length) (fun st => (st.2 - st.1).toNat) ⟨0, L.length, rfl, Nat.zero_le _, hle, Nat.le_refl _⟩ ?_)
    rintro st ⟨i, j, rfl, hi, hj, hjl⟩
    unfold bsL
    by_cases hlt : i < j
    · have hm : (i + j) / 2 < L.length := by omega
      simp only [show ((i : Int) < (j : Int)) by omega, if_true, show ((0 : Int) ≤ 1) by decide, mid_eq (by omega : i + j < 2 ^ 62), ix_nat hm, hc, bd_s]
      by_cases hlb : (i + j) / 2 < lbK key L s
      · have hk := hb1 _ hm hlb
        have : cmp3 (key L[(i + j) / 2]) s = -1 := by simp [cmp3, hk]
        simp only [this, show ((-1 : Int) < 0) by decide, if_true, bd_s]
        rw [wrap64 (by omega) (by omega)]
        exact .mk ⟨⟨(i + j) / 2 + 1, j, by simp, by omega, hj, hjl⟩, by omega⟩
      · have hk := hb2 _ hm (by omega)
        have : ¬ cmp3 (key L[(i + j) / 2]) s < 0 := by unfold cmp3; rw [if_neg (by omega)]; split <;> omega
        simp only [this, if_false, bd_s]
        exact .mk ⟨⟨i, (i + j) / 2, rfl, hi, by omega, by omega⟩, by omega⟩
    · simp only [show ¬ ((i : Int) < (j : Int)) by omega, if_false]
      exact .mk (by show (i : Int) = (lbK key L s : Int); omega)
  unfold bsearch
  rw [hloop]
  simp only [bd_s]
  by_cases hlt : lbK key L s < L.length
  · simp only [show ((lbK key L s : Int) < (L.length : Int)) by omega, if_true, ix_nat hlt, hc, bd_s]
    have h3 := hb2 _ hlt (Nat.le_refl _)
    have : decide (cmp3 (key L[lbK key L s]) s = 0) = hasK key L s := by
      unfold cmp3
      rw [if_neg (by omega)]
      by_cases he : key L[lbK key L s] = s
      · rw [if_neg (by omega), decide_eq_true rfl, (hs.has s).2 ⟨hlt, he⟩]
      · rw [if_pos (by omega), decide_eq_false (by decide)]
        symm; rw [Bool.eq_false_iff]
        intro hh
        obtain ⟨_, hh⟩ := (hs.has s).1 hh
        exact he hh
    rw [this]
  · simp only [show ¬ ((lbK key L s : Int) < (L.length : Int)) by omega, if_false, bd_s]
    have : hasK key L s = false := by
      rw [Bool.eq_false_iff]
      intro hh
      obtain ⟨hh, _⟩ := (hs.has s).1 hh
      exact hlt hh
    rw [this]
/-- a list with one more put in its place -/
def insK (key : α → Int) (L : List α) (a : α) : List α := L.take (lbK key L (key a)) ++ [a] ++ L.drop (lbK key L (key a))
theorem tInsert_lb {L : List α} {a : α} {by' : Nat} (hb : (L.length + 1) * by' ≤ 2 ^ 46) : tInsert by' L (lbK key L (key a) : Int) [a] = some (insK key L a) := by
  unfold tInsert
  rw [if_pos]
  · rfl
  · exact ⟨by omega, by simpa using lbK_le L _, by simp, by simpa using hb⟩
theorem tClone_eq {L : List α} {by' : Nat} (h : L.length * by' ≤ 2 ^ 46) : tClone by' L = some L := if_pos h
/-- where something is like an equality, looked for place by place -/
noncomputable def eqL [DecidableEq α] (a b : List α) (st : Int) : Option (Int ⊕ (Unit ⊕ Bool)) :=
  if st < (a.length : Int) then
  ix a st fun y =>
  ix b st fun y1 =>
  if !decide (y = y1) then
  some (.inr (.inr false))
  else
  some (.inl (IntKind.wrap .i64 (st + 1)))
  else
  some (.inr (.inl ()))
theorem eqL_loop [DecidableEq α] {a b : List α} (hl : a.length = b.length) (hn : a.length < 2 ^ 60) : ∃ r, Loop (eqL a b) 0 = some r ∧ (r = .inl () ∧ a = b ∨ r = .inr false ∧ a ≠ b) := by
  refine Gives.count (fun k => (k : Int)) a.length (fun k => a.take k = b.take k) rfl rfl (fun k hk hp => ?_) (fun hp => ?_)
  · have hkb : k < b.length := by omega
    unfold eqL
    simp only [show ((k : Int) < (a.length : Int)) by omega, if_true, ix_nat hk, ix_nat hkb]
    by_cases he : a[k] = b[k]
    · simp only [he, decide_true, Bool.not_true, Bool.false_eq_true, if_false]
      rw [wrap64 (by omega) (by omega)]
      refine .mk ⟨by omega, ?_⟩
      rw [List.take_add_one, List.take_add_one, hp, List.getElem?_eq_getElem hk, List.getElem?_eq_getElem hkb, he]
    · simp only [he, decide_false, Bool.not_false, if_true]
      exact .mk (.inr ⟨rfl, fun hab => he (by subst hab; rfl)⟩)
  · unfold eqL
    simp only [show ¬ ((a.length : Int) < (a.length : Int)) by omega, if_false]
    refine .mk (.inl ⟨rfl, ?_⟩)
    have h1 : a.take a.length = a := List.take_length
    have h2 : b.take a.length = b := by rw [hl]; exact List.take_length
    rw [← h1, hp, h2]
end
section
variable {α ρ : Type}
theorem map_take_succ {β : Type} (f : α → β) {L : List α} {k : Nat} (hk : k < L.length) : (L.take (k + 1)).map f = (L.take k).map f ++ [f L[k]] := by
  rw [← List.take_append_getElem hk, List.map_append]; rfl
theorem take_succ {L : List α} {k : Nat} (hk : k < L.length) : L.take (k + 1) = L.take k ++ [L[k]] := (List.take_append_getElem hk).symm
/-- a loop that looks whether all is well, and leaves at the first that is not -/
theorem Loop_all {body : Int → Option (Int ⊕ (Unit ⊕ ρ))} (n : Nat) (p : Nat → Prop) (c : ρ) (h : ∀ k, k < n → (∀ j, j < k → p j) → (p k → body (k : Int) = some (.inl ((k + 1 : Nat) : Int))) ∧ (¬ p k → body (k : Int) = some (.inr (.inr c))))
    (he : body (n : Int) = some (.inr (.inl ()))) : Gives (Loop body 0) fun r => (r = .inl () ∧ ∀ k, k < n → p k) ∨ (r = .inr c ∧ ∃ k, k < n ∧ ¬ p k) := by
  refine Gives.count (fun k => (k : Int)) n (fun k => ∀ j, j < k → p j) rfl (fun j hj => by omega) (fun k hk hp => ?_) (fun hp => ?_)
  · by_cases hpk : p k
    · refine .of ((h k hk hp).1 hpk) ⟨rfl, fun j hj => ?_⟩
      by_cases hjk : j = k
      · subst hjk; exact hpk
      · exact hp j (by omega)
    · exact .of ((h k hk hp).2 hpk) (.inr ⟨rfl, k, hk, hpk⟩)
  · exact .of he (.inl ⟨rfl, hp⟩)
/-- a loop that looks whether something is there -/
theorem Loop_any {ρ' : Type} {body : Bool × Int → Option ((Bool × Int) ⊕ ρ')} (n : Nat) (p : Nat → Bool) (fin : Bool → ρ') (h : ∀ k b, k < n → body (b, (k : Int)) = some (.inl (b || p k, ((k + 1 : Nat) : Int)))) (he : ∀ b, body (b, (n : Int)) = some (.inr (fin b))) : Loop body (false, 0) = some (fin ((List.range n).any p)) := by
  refine Gives.eq (Gives.count (fun k => ((List.range k).any p, (k : Int))) n (fun _ => True) (by simp) trivial (fun k hk _ => ?_) (fun _ => ?_))
  · refine .of (h k _ hk) ⟨?_, trivial⟩
    rw [List.range_succ, List.any_append]; simp
  · exact .of (he _) rfl
theorem any_range {L : List α} {q : α → Bool} : (List.range L.length).any (fun k => (L[k]?).any q) = L.any q := by
  rw [Bool.eq_iff_iff, List.any_eq_true, List.any_eq_true]
  constructor
  · rintro ⟨k, hk, h⟩
    rw [List.mem_range] at hk
    rw [List.getElem?_eq_getElem hk] at h
    exact ⟨_, List.getElem_mem hk, h⟩
  · rintro ⟨a, ha, h⟩
    obtain ⟨k, hk, rfl⟩ := List.mem_iff_getElem.1 ha
    refine ⟨k, List.mem_range.2 hk, ?_⟩
    rw [List.getElem?_eq_getElem hk]; exact h
theorem Loop_same [DecidableEq α] {a b : List α} {body : Int → Option (Int ⊕ (Unit ⊕ Bool))} (hl : a.length = b.length) (h : ∀ k (ha : k < a.length) (hb : k < b.length), body (k : Int) = some (if a[k] = b[k] then .inl ((k + 1 : Nat) : Int) else .inr (.inr false)))
    (he : body (a.length : Int) = some (.inr (.inl ()))) : Loop body 0 = some (if a = b then .inl () else .inr false) := by
  obtain ⟨r, e, hr⟩ := Loop_all (body := body) a.length (fun k => a[k]? = b[k]?) false (fun k hk _ => by
    have hkb : k < b.length := by omega
    rw [List.getElem?_eq_getElem hk, List.getElem?_eq_getElem hkb, h k hk hkb]
    constructor
    · intro hh; rw [if_pos (by simpa using hh)]
    · intro hh; rw [if_neg (by simpa using hh)]) he
  rw [e]
  rcases hr with ⟨rfl, hall⟩ | ⟨rfl, k, hk, hne⟩
  · rw [if_pos]
    refine List.ext_getElem? fun k => ?_
    by_cases hk : k < a.length
    · exact hall k hk
    · rw [List.getElem?_eq_none (by omega), List.getElem?_eq_none (by omega)]
  · rw [if_neg]
    intro hab; subst hab; exact hne rfl
end
end Dn
/-
  Runs with a bound on their rounds. Conditions: none.
-/
set_option linter.unusedVariables false
namespace Dn
open Go
def LoopC {σ R : Type} (n : Nat) (body : σ → Option (Sum σ R)) (s : σ) : Option R := iter body n s
/-- what the one gives, the other gives -/
def Le {A : Type} (x y : Option A) : Prop := ∀ a, x = some a → y = some a
section
variable {A B σ ρ α : Type}
theorem Le.rfl' (x : Option A) : Le x x := fun _ h => h
theorem Le.bd {x x' : Option A} {K K' : A → Option B} (h : Le x x') (hk : ∀ a, Le (K a) (K' a)) : Le (bd x K) (bd x' K') := by
  intro b hb
  cases hx : x with
  | none => rw [hx] at hb; cases hb
  | some a => rw [hx] at hb; rw [h a hx]; exact hk a b hb
theorem Le.ite {c : Prop} [Decidable c] {x y x' y' : Option A} (h1 : Le x x') (h2 : Le y y') : Le (if c then x else y) (if c then x' else y') := by
  split
  · exact h1
  · exact h2
theorem Le.ix {l : List α} {i : Int} {K K' : α → Option A} (h : ∀ a, Le (K a) (K' a)) : Le (ix l i K) (ix l i K') := by
  unfold Dn.ix
  split
  · exact h _
  · exact Le.rfl' _
theorem Le.iter {K K' : σ → Option (Sum σ ρ)} (h : ∀ s, Le (K s) (K' s)) (n : Nat) (s : σ) : Le (iter K n s) (iter K' n s) := by
  induction n generalizing s with
  | zero => exact Le.rfl' _
  | succ n ih =>
    intro r hr
    simp only [Dn.iter] at hr ⊢
    cases hk : K s with
    | none => rw [hk] at hr; cases hr
    | some x =>
      rw [hk] at hr
      rw [h s x hk]
      cases x with
      | inl s' => exact ih s' r hr
      | inr r' => exact hr
theorem Le.loop {n : Nat} {K K' : σ → Option (Sum σ ρ)} {s : σ} (h : ∀ s, Le (K s) (K' s)) : Le (LoopC n K s) (Loop K' s) := fun r hr => Loop_of_iter (Le.iter h n s r hr)
theorem Le.sum {P Q : Type} {x : P ⊕ Q} {f f' : P → Option A} {g g' : Q → Option A} (h1 : ∀ p, Le (f p) (f' p)) (h2 : ∀ q, Le (g q) (g' q)) : Le (match x with | .inl p => f p | .inr q => g q) (match x with | .inl p => f' p | .inr q => g' q) := by
  cases x
  · exact h1 _
  · exact h2 _
end
end Dn
/-
  A state in which variables of packages have given data. Conditions: none.
-/
set_option linter.unusedVariables false
set_option linter.unusedSimpArgs false
namespace Dn
open Go
def cellsD : Nat → DataW Unit → List Value
  | n + 1, .agg ds => ds.flatMap (cellsD n)
  | _, .lit (.int k v) => [.int k v]
  | _, _ => []
def setCellsO (cs : Array Value) : Obj → Obj
  | .cells _ t z => .cells cs t z
  | o => o
def laidHeap (P : Program) : List (String × DataW Unit) → Array Obj → Array Obj
  | [], h => h
  | x :: r, h => match P.globalNamed x.1 with
    | some g => laidHeap P r (h.modify g (setCellsO (cellsD 4 x.2).toArray))
    | none => laidHeap P r h
noncomputable def laidW (P : Program) (l : List (String × DataW Unit)) (os : Os) (args : Array Value) : World :=
  { World.holding P os ⟨#[], args, []⟩ with heap := laidHeap P l (World.holding P os ⟨#[], args, []⟩).heap }
theorem and_true_of {a b : Bool} (h1 : a = true) (h2 : b = true) : (a && b) = true := by rw [h1, h2]; rfl
/-! ### a program whose head says where it is cut -/
def cutW : List Char := [99, 117, 116].map Char.ofNat
theorem hd_ok : "cut".toList = cutW := by kernel_rfl
theorem hd_gc : (cutW == "gc".toList) = false := by kernel_rfl
theorem hd_spec : (cutW == "spec".toList) = false := by kernel_rfl
theorem hd_cut : (cutW == "cut".toList) = true := by kernel_rfl
theorem hd_carried : (cutW == "carried".toList) = false := by kernel_rfl
theorem hd_neq : (cutW != "carried".toList) = true := by kernel_rfl
section
variable {P : Program} {L : List (List Char)} {ns : List Nat}
theorem head_list (h : P.initOrder = String.ofList (ns.map Char.ofNat)) : P.initOrder.toList = ns.map Char.ofNat := by rw [h, String.toList_ofList]
theorem main_of {h s : List Char} (e : wordsSigns P.initOrder.toList = h :: s :: L) (h1 : isSumSigns s = true) (h2 : (h == "harness".toList) = true) : P.mainIs = some (true, s) := by
  unfold Program.mainIs
  rw [e]
  simp only [h1, h2, Bool.not_true, Bool.false_eq_true, if_false, if_true]
theorem make_of (e : behindMainWord (wordsSigns P.initOrder.toList) = cutW :: L) : P.make = some .cut := by
  unfold Program.make
  rw [e]
  simp only [hd_gc, hd_spec, hd_cut, Bool.or_false, Bool.false_eq_true, if_false, Bool.true_or, if_true]
theorem may_of (e : behindMainWord (wordsSigns P.initOrder.toList) = cutW :: L) (h1 : (stripLifts liftWords (cutW :: L)).1 = []) (h2 : ((stripLifts liftWords (cutW :: L)).2.head? == some "cut".toList) = true)
    (h3 : P.doorFits [] = true) (h4 : P.laysLater = false) (h5 : P.bearsReflect = false) : P.mayEnter = true := by
  unfold Program.mayEnter
  rw [e]
  simp only [h1, h2, h3, h4, h5, List.contains_nil, Bool.false_or, Bool.not_false, Bool.true_and, Bool.and_true, Bool.or_true]
theorem lifts_of (e : behindMainWord (wordsSigns P.initOrder.toList) = cutW :: L) (h1 : (stripLifts liftWords (cutW :: L)).1 = []) : P.liftsFinal = false := by
  unfold Program.liftsFinal Program.headLifts
  rw [e]
  have h0 : ((cutW :: L).head? == some "carried".toList) = false := by
    simp only [List.head?_cons]
    have := hd_carried
    simpa using this
  simp only [h0, h1, Bool.false_and, Bool.false_or]
  split <;> rfl
theorem make_eq {c : OpenClaim} (h : P.make = some .cut) (hc : c.make = .cut) : (P.make == some c.make) = true := by rw [h, hc]; rfl
theorem lifts_eq {c : OpenClaim} (h : P.liftsFinal = false) (hc : c.lifted = false) : (c.lifted == P.liftsFinal) = true := by rw [h, hc]; rfl
end
end Dn
