import Derived.Test.YteakdlhhamgfbaaDoorDnC
import Derived.Laws.CopyRow
import Derived.Lib.AppendZerosOnto
import Derived.Lib.Overlaps
import Derived.Laws.Externs
import Derived.Lib.SlTrimSet
import Derived.Lib.Bytealg
import Derived.Shelf.Strings.Split
import Derived.Shelf.Strings.SlTrimAscii
import Derived.Shelf.Strings.Runes
import Derived.Lib.IndexBytes
import Derived.Control
import Derived.LaidLaws
import Derived.Deep.DeepLaidRun
import Derived.Handed
import Derived.JoinedOf
import Derived.KernelRfl
/-
  A call of slices.DeleteFunc. Conditions: none.
-/
set_option linter.unusedSimpArgs false
set_option linter.unusedVariables false
namespace Dn
open Go
section
variable {P : Program} {c : Ctx} {Z : Zone} {e e' : Env} {st st' : St} {a : Act} {w w' : World} {R : Type} {K : St → Option R} {r : R} {Q : Exit → Act → World → Prop} {o : Oper}
theorem CallOK.imp {P : Program} {f : FuncId} {args : Array Value} {w : World} {R R' : Value → World → Prop} (hc : CallOK P f args w R) (h : ∀ v w', R v w' → R' v w') : CallOK P f args w R' := by
  unfold CallOK at hc ⊢
  split
  · rename_i heq
    rw [heq] at hc
    exact Calls.mono hc (fun x w'' ⟨v, e, hr⟩ => ⟨v, e, h v w'' hr⟩)
  · rename_i heq
    rw [heq] at hc
    exact h _ _ hc
  · rename_i h1 h2
    split at hc
    · rename_i heq; exact absurd heq (h1 _ _ _)
    · rename_i heq; exact absurd heq (h2 _ _)
    · exact hc
theorem Trans.widen {I J : Nat → Prop} {φ φ' : Ph} (h : Trans I φ w φ' w') (hs : ∀ b, I b → J b) : Trans J φ w φ' w' :=
  ⟨h.ph, fun b hb => h.heap b (fun hz => hb (hs b hz)), fun b o hb => h.free b o (fun hz => hb (hs b hz)), h.size, h.rest⟩
theorem argrep_b {key : Nat → Nat} {φ : Ph} {v : Value} {b : Bool} (h : ArgRep key φ v (.b b)) : v = .bool b := by
  obtain ⟨_, h⟩ := h
  generalize hvs : [v] = l at h
  cases h; simpa using hvs
theorem pred_plain (hS : Sound P c) {f : Nat} (hg : c.gives (c.key f) = false) {lb : Array Value} {ms : List MV} : PredOK P c f lb (fun (_ : Unit) (_ : Nat → Prop) φ (_ : World) => ArgReps c.key φ lb.toList ms) (stepP c.g (c.key f) ms) := by
  refine ⟨?_, fun h _ _ => h, fun h _ => h⟩
  intro s Z φ W v x b s' hinv hnew himm harg hst
  unfold stepP at hst
  split at hst
  · rename_i b' hx
    simp only [Option.some.injEq, Prod.mk.injEq] at hst
    obtain ⟨rfl, _⟩ := hst
    have hargs : ArgsIn c (fun b => W.heap.size ≤ b) φ W (c.key f) (v :: lb.toList) (x :: ms) := by
      simp only [ArgsIn, hg, Bool.false_eq_true, if_false]
      exact ⟨v, lb.toList, rfl, harg, hinv⟩
    have := hS f (x :: ms) (.b b') hx φ W (fun b => W.heap.size ≤ b) _ (fun b hb => hb) hargs himm
    have e1 : (v :: lb.toList).toArray = #[v] ++ lb := by apply Array.toList_inj.1; simp
    rw [e1] at this
    refine this.imp ?_
    rintro v' w' ⟨φ', t1, t2, t3⟩
    exact ⟨argrep_b t3, φ', t1.widen hnew, t2, hinv.mono t1.ph⟩
  · cases hst
theorem pred_cell (hS : Sound P c) {f pos blk : Nat} {ks : List LK} {ms : List MV} {lb0 : List Value} (hg : c.gives (c.key f) = true) (hsig : c.sig (c.key f) = some (pos, ks)) (hpos : pos = ms.length + 1) :
    PredOK P c f (lb0 ++ [Value.pointer (some ⟨blk, 0, none⟩)]).toArray (fun ls Z φ W => CellIn c Z φ W blk ks ls ∧ ArgReps c.key φ lb0 ms) (stepC c.g (c.key f) ms) := by
  refine ⟨?_, ?_, fun h hz => ⟨h.1.wide hz, h.2⟩⟩
  · intro ls Z φ W v x b s' hinv hnew himm harg hst
    obtain ⟨hcell, hreps⟩ := hinv
    unfold stepC at hst
    split at hst
    · rename_i b' outs hx
      simp only [Option.some.injEq, Prod.mk.injEq] at hst
      obtain ⟨rfl, rfl⟩ := hst
      have hl := hreps.length
      have hargs : ArgsIn c Z φ W (c.key f) (v :: (lb0 ++ [Value.pointer (some ⟨blk, 0, none⟩)])) (x :: (ms ++ [.cell (.func 0 ls)])) := by
        simp only [ArgsIn, hg, if_true]
        refine .inr (.inr ⟨pos, ks, 0, ls, blk, hsig, ?_, ?_, ?_, hcell⟩)
        · rw [hpos, List.getElem?_cons_succ, ← hl, List.getElem?_append_right (Nat.le_refl _)]; simp
        · rw [hpos, List.getElem?_cons_succ, List.getElem?_append_right (Nat.le_refl _)]; simp
        · rw [hpos, List.set_cons_succ, List.set_append_right _ _ (Nat.le_refl _), Nat.sub_self]
          exact ⟨v, _, rfl, harg, hreps.append ⟨_, [], rfl, ⟨rfl, .rp blk 0 [] [] .nil (by simp)⟩, rfl⟩⟩
      have := hS f _ _ hx φ W Z _ hnew hargs himm
      have e1 : (v :: (lb0 ++ [Value.pointer (some ⟨blk, 0, none⟩)])).toArray = #[v] ++ (lb0 ++ [Value.pointer (some ⟨blk, 0, none⟩)]).toArray := by apply Array.toList_inj.1; simp
      rw [e1] at this
      refine this.imp ?_
      rintro v' w' ⟨φ', t1, t2, hres, pos', ks', blk', off', hs', hv', hc⟩
      rw [hsig] at hs'
      simp only [Option.some.injEq, Prod.mk.injEq] at hs'
      obtain ⟨rfl, rfl⟩ := hs'
      have hb : blk' = blk := by
        rw [hpos, List.getElem?_cons_succ, ← hl, List.getElem?_append_right (Nat.le_refl _)] at hv'
        simp at hv'
        exact hv'.1.symm
      subst hb
      exact ⟨argrep_b hres, φ', t1, t2, hc, hreps.mono t1.ph⟩
    · cases hst
  · intro ls Z φ W W' hinv hsz hsame
    obtain ⟨⟨cs, m, E, arr, T, k1, k2, k3, k4, k5, k6, k7⟩, hreps⟩ := hinv
    have hlt := lt_of_heap k2
    refine ⟨⟨cs, m, E, arr, T, k1, (hsame blk k3 hlt).trans k2, ⟨k3, hlt⟩, k4, k5, fun f' o' ho => ⟨?_, (k6 f' o' ho).2⟩, k7⟩, hreps⟩
    obtain ⟨I, cells, q1, q2, q3, q4, q5⟩ := (k6 f' o' ho).1.row
    refine ⟨I, cells, q1, q2, ⟨q3.1, ?_⟩, q4, fun b hb => ⟨⟨(q5 b hb).1, row_lt q3 hb⟩, (q5 b hb).2⟩⟩
    rcases q3.2 with h6 | ⟨g, cap, cur, r1, r2, r3, r4⟩
    · exact .inl h6
    · exact .inr ⟨g, cap, cur, r1, r2, (hsame g (q5 g (by rw [r1]; rfl)).1 (lt_of_heap r3)).trans r3, r4⟩
theorem aggs_of {xs : List MV} (h : xs.all aggB = true) : ∀ x ∈ xs, ∃ ms, x = .agg ms := by
  intro x hx
  have := List.all_eq_true.1 h x hx
  cases x <;> simp [aggB] at this
  exact ⟨_, rfl⟩
theorem put_comm {a : Act} {x y : Nat} (h : x ≠ y) (v u : Value) : (a.put (some x) v).put (some y) u = (a.put (some y) u).put (some x) v := by
  show ({ a with tmps := (a.tmps.setIfInBounds x v).setIfInBounds y u } : Act) = { a with tmps := (a.tmps.setIfInBounds y u).setIfInBounds x v }
  rw [Array.setIfInBounds_comm v u h]
/-- behind the call: the row, and the two slots -/
theorem del_fin {y d : Nat} {o1 o2 : Oper} {h : Nat} {v0 v' fv : Value} {ys : List MV} {φ0 : Ph} {w0 : World} (hs : Sim c Z e st a w) (h1 : o1.dst = some y) (h2 : o2.dst = some d) (hyd : d ≠ y) (hin : ∀ b, v0.ownBlock = some b → Z.In b)
    (hfam : FamOK c (Zone.plain fun b => v0.ownBlock = some b) (env0 c.key e.φ) w v' ⟨c.fty (c.key h), false, ys⟩) (hown : ∀ b, v'.ownBlock = some b → v0.ownBlock = some b) (hap : ∀ b, v0.ownBlock = some b → (∀ t cs', fget st.fr t = .box cs' → e.B t ≠ b) ∧ ∀ f o, oget st.fams f = some o → (e.E f).ownBlock ≠ some b)
    (ht : Trans Z φ0 w0 e.φ w)
    (hK : (putFam st (o2.dst.getD 0) ⟨c.fty (c.key h), false, ys⟩ fun st => setDst c st o2.dst (.sc (.own (o2.dst.getD 0))) fun st => setDst c st o1.dst (.sc .un) K) = some r) : Out c Z K r φ0 w0 ((a.put o1.dst fv).put o2.dst v') w := by
  have hpf := hs.npf hK
  have hK1 := putFam_eq hK
  have hf2 : FamOK c Z.nc e w v' ⟨c.fty (c.key h), false, ys⟩ := by
    obtain ⟨I, cells, g1, g2, g3, g4, g5⟩ := hfam.row
    refine ⟨I, cells, g1, g2, g3, by rw [hs.key]; exact g4, fun blk hb => ⟨hin blk (hown blk hb), (g5 blk hb).2.1, fun hc => hc.elim⟩⟩
  have hs2 := hs.newFam hpf hf2 fun b hb => hap b (hown b hb)
  obtain ⟨I, cells, g1, g2, g3, g4, g5⟩ := hfam.row
  have hone : v'.oneCell' = true := by
    rcases g3.2 with ⟨rfl, _⟩ | ⟨g, cap, cur, rfl, _⟩ <;> rfl
  obtain ⟨e3, st3, q1, q2, q3⟩ := setDst_sim (v := v') (s := .sc (.own (o2.dst.getD 0))) hs2 (.of (own_setF hone) trivial) hK1
  obtain ⟨e4, st4, q4, q5, q6⟩ := setDst_sim (v := fv) (s := .sc .un) q1 (.of (by simp [SlotRep]) trivial) q2
  rw [h1, h2] at q4
  rw [put_comm hyd] at q4
  rw [h1, h2]
  exact ⟨e4, st4, q4, by rw [q6, q3]; exact ht, q5⟩
theorem delp_ok (hS : Sound P c) {h f x y d : Nat} {caps : Array Operand} {cl : Call} {o1 o2 : Oper} (hd : DelSem P c h (c.fty (c.key h))) (h1 : o1.op = .makeFunc (.func f) #[] caps) (h2 : o2.op = .call cl) (hcl : cl.callee = .value (.func h)) (hargs : cl.args.toList = [.tmp x, .tmp y])
    (hd1 : o1.dst = some y) (hd2 : o2.dst = some d) (hxy : x ≠ y) (hyd : d ≠ y) (hyn : y < c.n) (hsim : Sim c Z e st a w) (hK : delpK c h f caps.toList (.tmp x) o1 o2 st K = some r) :
    o1.wp P a w (fun a1 w1 => o2.wp P a1 w1 (Out c Z K r e.φ w) Q) Q := by
  have hrun1 : (execOp a.eval o1).run P w = .ok (.value (.func (.func f) #[] (caps.map a.eval))) w := by simp [execOp, h1, Instr.makeFunc]
  unfold Oper.wp
  rw [hrun1, Oper.upon_value]
  have hev : ∀ v : Value, (a.put o1.dst v).eval (.tmp x) = a.eval (.tmp x) ∧ (a.put o1.dst v).eval (.tmp y) = v := by
    intro v
    rw [hd1]
    have hy : y < a.tmps.size := by rw [hsim.size]; exact hyn
    constructor
    · show (a.put (some y) v).tmps.getD x undef = a.tmps.getD x undef
      rw [Act.put_getD hy, if_neg hxy]
    · show (a.put (some y) v).tmps.getD y undef = v
      rw [Act.put_getD hy, if_pos rfl]
  have hcargs : ∀ v : Value, cl.args.map (a.put o1.dst v).eval = #[a.eval (.tmp x), v] := by
    intro v
    apply Array.toList_inj.1
    rw [Array.toList_map, hargs]
    simp [(hev v).1, (hev v).2]
  have hrun2 : ∀ v : Value, (execOp (a.put o1.dst v).eval o2).run P w = (callFunc h #[a.eval (.tmp x), v]).run P w := by
    intro v
    have := hcargs v
    simp [execOp, h2, resolve, hcl, this, Act.eval, Deferred.ofValue, invoke]
  unfold delpK at hK
  cases hsig : c.sig (c.key f) with
  | none =>
    simp only [hsig] at hK
    cases hg : c.gives (c.key f) with
    | true => simp [hg] at hK
    | false =>
    simp only [hg, cond_false] at hK
    obtain ⟨e1, st1, ms, s1, x1, r1, hK1, hone⟩ := capsK_spec hsim hK
    obtain ⟨e2, st2, xs, G, hK2⟩ := giveK_spec s1 (s1.eval (.tmp x)).1 hK1
    simp only [gF] at hK2
    obtain ⟨hagg, hK3⟩ := chk_some hK2
    obtain ⟨p, hp, hK4⟩ := bd_some hK3
    obtain ⟨ys, u⟩ := p
    have hreps : ArgReps c.key e1.φ (caps.map a.eval).toList ms := by
      have := RepL.one r1 hone
      rw [s1.key] at this
      simpa using this
    have hdis : ∀ b, (a.eval (.tmp x)).ownBlock = some b → ¬ w.heap.size ≤ b := by
      intro b hb
      obtain ⟨I, cells, _, _, g3, _⟩ := G.row.row
      have := row_lt g3 hb
      omega
    have hcall := hd.run (pred_plain hS hg) (aggs_of hagg) G.row hdis hreps (fun b hb => hb) s1.imm hp
    refine call_out (hrun2 _) hcall ?_
    rintro v' w' ⟨Zw, φ', hW, hfam, hown⟩
    have hzin : ∀ b, ((w.heap.size ≤ b ∨ w.heap.size ≤ b) ∨ (a.eval (.tmp x)).ownBlock = some b) → Z.In b := by
      rintro b ((hb | hb) | hb)
      · exact s1.zone b hb
      · exact s1.zone b hb
      · exact G.In b hb
    have hzb : ∀ t cs, fget st2.fr t = .box cs → ¬ ((w.heap.size ≤ e2.B t ∨ w.heap.size ≤ e2.B t) ∨ (a.eval (.tmp x)).ownBlock = some (e2.B t)) := by
      rintro t cs ht ((hb | hb) | hb)
      · have := box_lt G.sim ht; omega
      · have := box_lt G.sim ht; omega
      · exact G.box t cs ht hb
    have hzf : ∀ f o k, oget st2.fams f = some o → (e2.E f).ownBlock = some k → ¬ ((w.heap.size ≤ k ∨ w.heap.size ≤ k) ∨ (a.eval (.tmp x)).ownBlock = some k) := by
      rintro f o k ho hk ((hb | hb) | hb)
      · have := fam_lt G.sim ho hk; omega
      · have := fam_lt G.sim ho hk; omega
      · exact G.fam f o k ho hk hb
    have htr := hW.tr
    rw [← G.φ] at htr
    have hs3 := G.sim.called hzin hzb hzf htr hW.imm
    have htr2 : Trans Z e.φ w φ' w' := x1.tr.trans (hW.tr.widen hzin)
    exact del_fin (e := { e2 with φ := φ' }) hs3 hd1 hd2 hyd G.In hfam hown (fun b hb => ⟨fun t cs' ht he => G.box t cs' ht (by rw [hb, ← he]), fun f o ho hk => G.fam f o b ho hk hb⟩) htr2 hK4
  | some sg =>
    obtain ⟨pos, ks⟩ := sg
    simp only [hsig] at hK
    obtain ⟨e1, st1, ms, s1, x1, r1, hK1, hone⟩ := capsK_spec hsim hK
    obtain ⟨e2, st2, xs, G, hK2⟩ := giveK_spec s1 (s1.eval (.tmp x)).1 hK1
    simp only [gF] at hK2
    obtain ⟨hagg, hK3⟩ := chk_some hK2
    cases hlast : caps.toList.getLast? with
    | none => simp [hlast] at hK3
    | some y0 =>
    simp only [hlast] at hK3
    split at hK3
    rotate_left
    · cases hK3
    rename_i root hev0
    split at hK3
    rotate_left
    · cases hK3
    rename_i cs hf
    cases hcond : isMp cs || nmem st2.prot root || !tysOK c ks || !Nat.beq pos (ms.length + 1) || !c.gives (c.key f) with
    | true => simp [hcond] at hK3
    | false =>
    simp only [hcond, cond_false] at hK3
    simp only [Bool.or_eq_false_iff, Bool.not_eq_false'] at hcond
    obtain ⟨⟨⟨⟨hm, hr⟩, hty⟩, hpos⟩, hg⟩ := hcond
    have hpos := Nat.eq_of_beq_eq_true hpos
    obtain ⟨ls, ps, ht, hK4⟩ := takeLKs_TC hK3
    obtain ⟨p, hp, hK5⟩ := bd_some hK4
    obtain ⟨ys, outs⟩ := p
    have hy0 : a.eval y0 = .pointer (some ⟨e2.B root, 0, none⟩) := by
      have := (G.sim.eval y0).1
      rw [hev0] at this
      exact this
    have hcaps : (caps.map a.eval) = ((caps.toList.dropLast.map a.eval) ++ [Value.pointer (some ⟨e2.B root, 0, none⟩)]).toArray := by
      apply Array.toList_inj.1
      rw [Array.toList_map]
      have hne : caps.toList ≠ [] := by intro e; rw [e] at hlast; simp at hlast
      have h3 : caps.toList = caps.toList.dropLast ++ [y0] := by
        have h4 := List.dropLast_concat_getLast hne
        have h5 := List.getLast?_eq_some_getLast hne
        rw [hlast] at h5
        rw [Option.some.inj h5]
        exact h4.symm
      rw [h3]
      simp [hy0]
    have hreps : ArgReps c.key e2.φ (caps.toList.dropLast.map a.eval) ms := by
      have := RepL.one r1 hone
      rw [s1.key, ← G.φ] at this
      exact this
    have hrow : FamOK c (Zone.plain fun b => (a.eval (.tmp x)).ownBlock = some b) (env0 c.key e2.φ) w (a.eval (.tmp x)) ⟨c.fty (c.key h), false, xs⟩ := by rw [G.φ]; exact G.row
    let Z2 : Nat → Prop := fun b => w.heap.size ≤ b ∨ gone e2 root ps b
    have hgx : ∀ b, (a.eval (.tmp x)).ownBlock = some b → ¬ gone e2 root ps b := by
      rintro b hb (rfl | ⟨q, g, hp, hq⟩)
      · exact G.box root cs hf hb
      · obtain ⟨o, ho, _⟩ := ht.fams q g hp
        exact G.fam g o b ho hq hb
    have hlt : ∀ b, (a.eval (.tmp x)).ownBlock = some b → b < w.heap.size := by
      intro b hb
      obtain ⟨I, cells, _, _, g3, _⟩ := G.row.row
      exact row_lt g3 hb
    have hdis : ∀ b, (a.eval (.tmp x)).ownBlock = some b → ¬ Z2 b := by
      rintro b hb (h' | h')
      · have := hlt b hb; omega
      · exact hgx b hb h'
    have hcell : CellIn c Z2 e2.φ w (e2.B root) ks ls := (cell_out G.sim hf hm hty ht).wide fun b hb => .inr hb
    have hcall := hd.run (pred_cell hS hg hsig hpos) (aggs_of hagg) hrow hdis ⟨hcell, hreps⟩ (fun b hb => .inl hb) G.sim.imm hp
    rw [← hcaps] at hcall
    refine call_out (hrun2 _) hcall ?_
    rintro v' w' ⟨Zw, φ', hW, hfam, hown⟩
    have hZ2 : ∀ b, Z2 b ∨ w.heap.size ≤ b → Z2 b := fun b hb => hb.elim id .inl
    have hzin : ∀ b, Z2 b → Z.In b := fun b hb => hb.elim (G.sim.zone b) (gone_in G.sim hf hr ht b)
    have htr : Trans (fun b => Z2 b ∨ (a.eval (.tmp x)).ownBlock = some b) e2.φ w φ' w' := hW.tr.widen fun b hb => hb.elim (fun h => .inl (hZ2 b h)) .inr
    have hcell' : CellIn c Z2 φ' w' (e2.B root) ks outs := hW.inv.1.wide fun b hb => hZ2 b (hW.sub b hb)
    obtain ⟨e3, st3, h3, hφ3, hX, hK6⟩ := back_simX G.sim hf hm hr ht (fun b => Iff.rfl) (X := fun b => (a.eval (.tmp x)).ownBlock = some b) (fun t cs' ht' hb => G.box t cs' ht' hb) (fun f o b ho hk hb => G.fam f o b ho hk hb) htr hW.imm hcell' hK5
    have htr2 : Trans Z e.φ w φ' w' := by
      have t2 : Trans Z e2.φ w φ' w' := htr.widen fun b hb => hb.elim (hzin b) (G.In b)
      rw [G.φ] at t2
      exact x1.tr.trans t2
    subst hφ3
    exact del_fin h3 hd1 hd2 hyd G.In hfam hown (fun b hb => hX b hb (hdis b hb)) htr2 hK6
end
end Dn
/-
  Regions in the order of their text. Conditions: none.
-/
set_option linter.unusedSimpArgs false
set_option linter.unusedVariables false
namespace Dn
open Go
section
variable {P : Program} {c : Ctx} {Z : Zone} {e : Env} {st : St} {a : Act} {w : World} {R : Type} {K : St → Option R} {r : R} {Q : Exit → Act → World → Prop} {ops : Array Oper}
theorem ops_then (hG : Good P c) {is : List Nat} {rest : List Nat} : ∀ {os : List Oper} {e : Env} {st : St} {a : Act} {w : World}, is.map (ops[·]?) = os.map some → Sim c Z e st a w → opsK c ops.toList os st K = some r →
    ∀ {φ0 : Ph} {w0 : World}, Trans Z φ0 w0 e.φ w → (∀ a' w', Out c Z K r φ0 w0 a' w' → wpOps P ops Q rest a' w') → wpOps P ops Q (is ++ rest) a w := by
  induction is with
  | nil =>
    intro os e st a w hm h hK φ0 w0 ht hQ
    cases os with
    | nil => exact hQ a w ⟨e, st, h, ht, hK⟩
    | cons => simp at hm
  | cons i is ih =>
    intro os e st a w hm h hK φ0 w0 ht hQ
    cases os with
    | nil => simp at hm
    | cons o os =>
      simp only [List.map_cons, List.cons.injEq] at hm
      simp only [opsK] at hK
      rw [List.cons_append, wpOps_cons]
      refine wpOp_mono ?_ (step_ok hG hm.1 h hK)
      rintro a' w' ⟨e2, st2, h1, h2, h3⟩
      exact ih hm.2 h1 h3 (ht.trans h2) hQ
structure DelAt (c : Ctx) (l pre : List Oper) (f : Nat) (caps : List Operand) (h : Nat) (x : Operand) (o1 o2 : Oper) (post : List Oper) : Prop where
  eq : l = pre ++ o1 :: o2 :: post
  is : ∃ (cs : Array Operand) (cl : Call) (x' y d : Nat), cs.toList = caps ∧ o1.op = .makeFunc (.func f) #[] cs ∧ o2.op = .call cl ∧ cl.callee = .value (.func h) ∧ cl.args.toList = [.tmp x', .tmp y] ∧ x = .tmp x' ∧ o1.dst = some y ∧ o2.dst = some d ∧ c.dels h = true ∧ x' ≠ y ∧ d ≠ y ∧ y < c.n
theorem delAt_spec : ∀ {l pre pre' : List Oper} {f : Nat} {caps : List Operand} {h : Nat} {x : Operand} {o1 o2 : Oper} {post : List Oper}, delAt c pre l = some (pre', f, caps, h, x, o1, o2, post) → DelAt c (pre.reverse ++ l) pre' f caps h x o1 o2 post := by
  intro l
  induction l with
  | nil => intro pre pre' f caps h x o1 o2 post hd; simp [delAt] at hd
  | cons p1 l ih =>
    intro pre pre' f caps h x o1 o2 post hd
    cases l with
    | nil => simp [delAt] at hd
    | cons p2 r =>
      have rec_ : delAt c (p1 :: pre) (p2 :: r) = some (pre', f, caps, h, x, o1, o2, post) → DelAt c (pre.reverse ++ p1 :: p2 :: r) pre' f caps h x o1 o2 post := by
        intro hq
        have := ih hq
        simpa using this
      unfold delAt at hd
      split at hd
      · rename_i f' first cs cl h1 h2
        split at hd
        · rename_i h' x' y' d' k1 k2 k3 k4
          cases hb : c.dels h' && Nat.beq y' d' && !Nat.beq x' d' && !Nat.ble c.n d' && !Nat.beq (p2.dst.getD d') d' with
          | false => simp only [hb, cond_false] at hd; exact rec_ hd
          | true =>
            simp only [hb, cond_true, Option.some.injEq, Prod.mk.injEq] at hd
            obtain ⟨rfl, rfl, rfl, rfl, rfl, rfl, rfl, rfl⟩ := hd
            simp only [Bool.and_eq_true, Bool.not_eq_true', nbeq, decide_eq_true_eq, decide_eq_false_iff_not] at hb
            obtain ⟨⟨⟨⟨q1, rfl⟩, q3⟩, q4⟩, q5⟩ := hb
            have hf : first = #[] := by apply Array.toList_inj.1; simpa using k3
            subst hf
            have hd2 : ∃ d, p2.dst = some d ∧ d ≠ y' := by
              cases hp : p2.dst with
              | none => rw [hp] at q5; simp at q5
              | some d => rw [hp] at q5; exact ⟨d, rfl, q5⟩
            obtain ⟨d, hd2, hd3⟩ := hd2
            refine ⟨rfl, cs, cl, x', y', d, rfl, h1, h2, k1, k2, rfl, k4, hd2, q1, q3, hd3, ?_⟩
            rcases Nat.lt_or_ge y' c.n with hlt | hge
            · exact hlt
            · have hble := Nat.ble_eq_true_of_le hge
              simp_all
        · exact rec_ hd
      · exact rec_ hd
theorem plainB_spec : ∀ {l : List Oper}, plainB l = true → ∀ o ∈ l, o.guard = none := by
  intro l
  induction l with
  | nil => intro _ o ho; cases ho
  | cons p l ih =>
    intro h o ho
    unfold plainB at h
    cases hg : p.guard with
    | none =>
      rw [hg] at h
      rcases List.mem_cons.1 ho with rfl | ho
      · exact hg
      · exact ih h o ho
    | some => rw [hg] at h; cases h
theorem text_runs (hG : Good P c) (hdel : DelsOK P c) (id : Nat) (ops : Array Oper) : RunsText P c id ops := by
  intro Z e st a w R K r Q h hK hQ
  unfold textK at hK
  split at hK
  rotate_left
  · exact region_ok (runs_text hG id ops) h hK hQ
  rename_i pre f caps hh x o1 o2 post hda
  obtain ⟨heq, cs, cl, x', y, d, rfl, k1, k2, k3, k4, rfl, k5, k6, k7, k8, k9, k10⟩ := delAt_spec hda
  simp only [List.reverse_nil, List.nil_append] at heq
  cases hpl : plainB ops.toList with
  | false => simp [hpl] at hK
  | true =>
  simp only [hpl, cond_true, dropSt, dropPtrs_eq] at hK
  have hgd := plainB_spec hpl
  have hg1 : o1.guard = none := hgd o1 (by rw [heq]; simp)
  have hg2 : o2.guard = none := hgd o2 (by rw [heq]; simp)
  refine wp_region ?_
  have hsz : ops.size = pre.length + (post.length + 2) := by rw [← Array.length_toList, heq]; simp
  have hget : ∀ i, ops[i]? = (pre ++ o1 :: o2 :: post)[i]? := fun i => by rw [← heq, Array.getElem?_toList]
  have hrange : List.range ops.size = List.range pre.length ++ (pre.length :: (pre.length + 1) :: ((List.range post.length).map (· + (pre.length + 2)))) := by
    rw [hsz, List.range_add]
    congr 1
    rw [show post.length + 2 = 2 + post.length by omega, List.range_add]
    simp [List.range_succ]
    intros; omega
  rw [hrange]
  refine ops_then hG (os := pre) ?_ h.drop hK (.refl _ _ _) ?_
  · apply List.ext_getElem?
    intro i
    simp only [List.getElem?_map]
    by_cases hi : i < pre.length
    · rw [List.getElem?_range hi]
      simp only [Option.map_some, hget, List.getElem?_append_left hi]
      rw [List.getElem?_eq_getElem hi]; rfl
    · rw [List.getElem?_eq_none (by simp; omega), List.getElem?_eq_none (by omega)]; rfl
  · rintro a1 w1 ⟨e1, st1, s1, t1, hK1⟩
    have hw := delp_ok hG.fn (hdel hh k7) k1 k2 k3 k4 k5 k6 k8 k9 k10 s1 hK1 (P := P) (Q := Q)
    have hi1 : ops[pre.length]? = some o1 := by rw [hget]; simp
    have hi2 : ops[pre.length + 1]? = some o2 := by rw [hget, List.getElem?_append_right (by omega)]; simp
    rw [wpOps_cons]
    unfold wpOp
    simp only [hi1, Region.wanted, hg1, if_true]
    left
    refine Oper.wp_mono ?_ hw
    intro a2 w2 hw2
    rw [wpOps_cons]
    unfold wpOp
    simp only [hi2, Region.wanted, hg2, if_true]
    left
    refine Oper.wp_mono ?_ hw2
    rintro a3 w3 ⟨e3, st3, s3, t3, hK3⟩
    rw [← List.append_nil ((List.range post.length).map (· + (pre.length + 2)))]
    refine ops_then hG (os := post) ?_ s3 hK3 (t1.trans t3) ?_
    · apply List.ext_getElem?
      intro i
      simp only [List.getElem?_map, List.map_map]
      by_cases hi : i < post.length
      · rw [List.getElem?_range hi]
        simp only [Option.map_some, Function.comp, hget]
        rw [List.getElem?_append_right (by omega), show i + (pre.length + 2) - pre.length = i + 2 by omega]
        simp [List.getElem?_eq_getElem hi]
      · rw [List.getElem?_eq_none (by simp; omega), List.getElem?_eq_none (by omega)]; rfl
    · intro a' w' ho
      exact hQ a' w' ho
end
end Dn
/-
  Open order with two operations that may be done either way round. Conditions: none.
-/
set_option linter.unusedSimpArgs false
set_option linter.unusedVariables false
namespace Dn
open Go

section
variable {P : Program} {ops : Array Oper} {Q : Exit → Act → World → Prop}

theorem addE_size (A B : Nat) : (addE ops A B).size = ops.size := by simp [addE]
theorem addE_get (A B i : Nat) : (addE ops A B)[i]? = (ops[i]?).map fun o => if B = i then { o with after := o.after.push ⟨A, .data⟩ } else o := by
  unfold addE
  rw [Array.getElem?_modify]
  by_cases h : B = i
  · simp [h]
  · cases ops[i]? <;> simp [h]
theorem addE_yielded (A B : Nat) (tmps : Array Value) : yielded (addE ops A B) tmps = yielded ops tmps := by
  funext j
  unfold yielded
  rw [addE_get]
  cases ops[j]? with
  | none => rfl
  | some o =>
    have e : (if B = j then { o with after := o.after.push ⟨A, .data⟩ } else o).dst = o.dst := by split <;> rfl
    simp only [Option.map_some, Option.bind_some, e]
theorem addE_wpOp {A B i : Nat} {K : Act → World → Prop} {a : Act} {w : World} (h : wpOp P (addE ops A B) Q i K a w) : wpOp P ops Q i K a w := by
  unfold wpOp at h ⊢
  rw [addE_get, addE_yielded] at h
  cases hi : ops[i]? with
  | none => rw [hi] at h; exact h
  | some o =>
    rw [hi] at h
    simp only [Option.map_some] at h
    by_cases hb : B = i
    · rw [if_pos hb] at h; exact h
    · rw [if_neg hb] at h; exact h
theorem addE_ready {A B i : Nat} {listed : Array Bool} : i ∈ Region.ready .any (addE ops A B) listed ↔ i ∈ Region.ready .any ops listed ∧ (i = B → listed.getD A false = true) := by
  unfold Region.ready
  rw [addE_size]
  simp only [List.mem_filter, List.mem_range, addE_get]
  cases hi : ops[i]? with
  | none => simp
  | some o =>
    by_cases hb : B = i
    · subst hb
      simp [Array.all_push, Region.binds]
      constructor
      · rintro ⟨h1, h2, h3, h4⟩; exact ⟨⟨h1, h2, h3⟩, h4⟩
      · rintro ⟨⟨h1, h2, h3⟩, h4⟩; exact ⟨h1, h2, h3, h4⟩
    · have hb' : ¬ i = B := fun e => hb e.symm
      simp [hb, hb']
/-- is A ahead of B -/
def Ahd (A B : Nat) : Bool → List Nat → Prop
  | _, [] => True
  | la, i :: r => (i = B → la = true) ∧ Ahd A B (la || decide (i = A)) r
theorem ahd_true (A B : Nat) : ∀ L, Ahd A B true L
  | [] => trivial
  | i :: r => ⟨fun _ => rfl, by simpa using ahd_true A B r⟩
theorem ahd_or {A B : Nat} (h : A ≠ B) : ∀ L, Ahd A B false L ∨ Ahd B A false L
  | [] => .inl trivial
  | i :: r => by
    by_cases ha : i = A
    · subst ha
      exact .inl ⟨fun e => absurd e h, by simpa using ahd_true i B r⟩
    · by_cases hb : i = B
      · subst hb
        exact .inr ⟨fun e => absurd e ha, by simpa using ahd_true i A r⟩
      · rcases ahd_or h r with h1 | h1
        · exact .inl ⟨fun e => absurd e hb, by simpa [ha] using h1⟩
        · exact .inr ⟨fun e => absurd e ha, by simpa [hb] using h1⟩
theorem two_sound {A B : Nat} : ∀ (fuel t : Nat) (listed : Array Bool) (a : Act) (w : World), A < listed.size → wpAny P .any (addE ops A B) Q fuel listed a w →
    Ahd A B (listed.getD A false) (Region.linearise.go .any ops fuel t listed []) → wpOps P ops Q (Region.linearise.go .any ops fuel t listed []) a w := by
  intro fuel
  induction fuel with
  | zero => intro t listed a w _ h _; simpa [Region.linearise.go, wpOps] using h.2
  | succ fuel ih =>
    intro t listed a w hs h hA
    obtain ⟨h₀, h₁⟩ := h
    simp only [Region.linearise.go] at hA ⊢
    change wpOps P ops Q (match (Region.ready .any ops listed)[t % (Region.ready .any ops listed).length]? with
      | some i => Region.linearise.go .any ops fuel (t / (Region.ready .any ops listed).length) (listed.setIfInBounds i true) [i]
      | none => [].reverse) a w
    change Ahd A B (listed.getD A false) (match (Region.ready .any ops listed)[t % (Region.ready .any ops listed).length]? with
      | some i => Region.linearise.go .any ops fuel (t / (Region.ready .any ops listed).length) (listed.setIfInBounds i true) [i]
      | none => [].reverse) at hA
    cases hi : (Region.ready .any ops listed)[t % (Region.ready .any ops listed).length]? with
    | none =>
      have hnil : Region.ready .any ops listed = [] := by
        cases hr : Region.ready .any ops listed with
        | nil => rfl
        | cons x xs =>
          rw [hr] at hi
          have hlt : t % (x :: xs).length < (x :: xs).length := Nat.mod_lt _ (by simp)
          simp at hi
          simp at hlt
          omega
      have hnil2 : Region.ready .any (addE ops A B) listed = [] := by
        cases hr : Region.ready .any (addE ops A B) listed with
        | nil => rfl
        | cons x xs =>
          have : x ∈ Region.ready .any (addE ops A B) listed := by rw [hr]; simp
          have := (addE_ready.1 this).1
          rw [hnil] at this; cases this
      simpa [wpOps] using h₀ hnil2
    | some i =>
      rw [hi] at hA
      simp only [] at hA ⊢
      rw [linearise_go_acc, List.reverse_singleton, List.singleton_append] at hA ⊢
      obtain ⟨hA1, hA2⟩ := hA
      rw [wpOps_cons]
      have hmem := addE_ready.2 ⟨List.mem_of_getElem? hi, hA1⟩
      refine wpOp_mono (fun a w hw => ih _ _ a w (by simpa using hs) hw ?_) (addE_wpOp (h₁ i hmem))
      have hg : (listed.setIfInBounds i true).getD A false = (listed.getD A false || decide (i = A)) := by
        rw [Array.getD_eq_getD_getElem?, Array.getD_eq_getD_getElem?, Array.getElem?_setIfInBounds]
        by_cases hia : i = A
        · subst hia; simp [hs]
        · simp [hia]
      rw [hg]; exact hA2
theorem wp_region_two {id A B : Nat} {a : Act} {w : World} (hm : P.follows .mixedOrders = true) (hne : A ≠ B) (hA : A < ops.size) (hB : B < ops.size)
    (h1 : wpAny P .any (addE ops A B) Q ops.size (Array.replicate ops.size false) a { w with drawn := w.drawn + 1 })
    (h2 : wpAny P .any (addE ops B A) Q ops.size (Array.replicate ops.size false) a { w with drawn := w.drawn + 1 }) : (Code.region id ops true).wp P Q a w :=
  wp_region_draw fun t => by
    simp only [Region.schedule, hm, Bool.true_or, if_true]
    show wpOps P ops Q (Region.linearise.go .any ops ops.size t (Array.replicate ops.size false) []) a _
    rcases ahd_or hne (Region.linearise.go .any ops ops.size t (Array.replicate ops.size false) []) with h | h
    · exact two_sound ops.size t _ a _ (by simpa using hA) h1 (by simpa [hA] using h)
    · exact two_sound ops.size t _ a _ (by simpa using hB) h2 (by simpa [hB] using h)
theorem draws_ok {c : Ctx} (hG : Good P c) (hmix : P.follows .mixedOrders = true) (hdel : DelsOK P c) : Draws P c := by
  refine ⟨fun id ops => text_runs hG hdel id ops, ?_, ?_⟩
  · intro id ops l hd hp Z e st a w R K r Q h hK hQ
    refine Code.wp_mono ?_ (wp_region_any hmix (draw_any hG hd hp h hK))
    intro x a' w' hx
    cases x <;> first | exact hQ a' w' hx | exact hx.elim
  · intro id ops A B o1 o2 l1 l2 hne hA hB hd1 hd2 hp1 hp2 Z e st a w R K r Q h hK1 hK2 hQ
    have w1 := draw_any hG hd1 hp1 h hK1
    have w2 := draw_any hG hd2 hp2 h hK2
    rw [addE_size] at w1 w2
    refine Code.wp_mono ?_ (wp_region_two hmix hne hA hB w1 w2)
    intro x a' w' hx
    cases x <;> first | exact hQ a' w' hx | exact hx.elim
end
end Dn
/-
  Functions of the library, by hand: copies of slices. Conditions: none.
-/
set_option linter.unusedSimpArgs false
set_option linter.unusedVariables false
namespace Dn
open Go

section
variable {P : Program} {c : Ctx} {Q : Exit → Act → World → Prop} {ops : Array Oper} {o : Oper} {a : Act} {w w' : World}

/-- one operation, of which it is known what it yields -/
theorem wp_val {i : Nat} {rest : List Nat} {v : Value} (hi : ops[i]? = some o) (hg : o.guard = none) (hrun : (execOp a.eval o).run P w = .ok (.value v) w')
    (h : wpOps P ops Q rest (a.put o.dst v) w') : wpOps P ops Q (i :: rest) a w := by
  rw [wpOps_cons]
  unfold wpOp
  simp only [hi, Region.wanted, hg, if_true]
  left
  unfold Oper.wp
  rw [hrun, Oper.upon_value]; exact h

/-- what an operation is, but for its place in the text -/
structure IsOp (o : Oper) (d : Nat) (op : Op) : Prop where
  dst : o.dst = some d
  op : o.op = op
  guard : o.guard = none

theorem src_of {key : Nat → Nat} {φ : Ph} {size : Nat} {v : Value} {xs : List MV} (himm : Imm φ w) (hpos : 0 < size) (hx : Rep key φ [v] (.list xs)) (hw : wids size xs = true) : ∃ news, Src (env0 key φ) w size v xs news := by
  generalize hv : [v] = vs at hx
  cases hx with
  | list ad cap _ blk off esz f g1 g2 g3 g4 g5 =>
  simp at hv
  have hes : ∀ i, i < xs.length → (f i).length = size := by
    intro i hi
    rw [(g5 i hi).width]
    exact wids_mem hw _ (List.getElem_mem hi)
  obtain ⟨cs, h1, h2⟩ := elems_flat hes g5
  refine ⟨cs, h1, ad, cap, hv, ?_, ?_⟩
  · intro hn
    cases xs with
    | nil => rfl
    | cons y ys => have := g2 (by simp); rw [hn] at this; cases this
  · intro x hx j u hj
    have hjl : j < cs.length := (List.getElem?_eq_some_iff.1 hj).1
    rw [h1.length] at hjl
    have hpos2 : 0 < xs.length := by
      cases xs with
      | nil => simp at hjl
      | cons y ys => simp
    have had := g2 hpos2
    rw [hx] at had
    cases had
    have hq : j / size < xs.length := (Nat.div_lt_iff_lt_mul hpos).2 hjl
    have hm := Nat.mod_lt j hpos
    have hj2 : j = j / size * size + j % size := by rw [Nat.mul_comm]; exact (Nat.div_add_mod j size).symm
    have e1 := h2 (j / size) (j % size) hq hm
    rw [← hj2, hj] at e1
    have hes2 : esz = size := by rw [← g3 0 hpos2, hes 0 hpos2]
    have e2 := g4 (j / size) (j % size) hq (by rw [hes2]; exact hm)
    rw [← e1, hes2, Nat.add_assoc, ← hj2] at e2
    have := himm _ _ _ e2
    rw [Addr.add_mid]; exact this

/-- a slice is nil, or not -/
theorem run_isnil {t t' : TypeId} {el : TypeId} {x : Operand} {ad : Option Addr} {n cap : Nat} (hu : P.underlying t = some (.slice el)) (ho : o.op = .binOp .eql t x (.const (.slice none 0 0)) t') (hx : a.eval x = .slice ad n cap) :
    (execOp a.eval o).run P w = .ok (.value (.bool ad.isNone)) w := by
  have he : a.eval (.const (.slice none 0 0)) = .slice none 0 0 := rfl
  have heq : ∀ d : Nat, (Op.equalIn (d + 1) t (.slice ad n cap) (.slice none 0 0)).run P w = .ok ad.isNone w := by
    intro d
    cases ad <;> simp [Op.equalIn, run_underlying hu]
  have hb : Go.binOp .eql t (.slice ad n cap) (.slice none 0 0) = (do pure (.bool (← Op.equal t (.slice ad n cap) (.slice none 0 0)))) := rfl
  have hg : ∀ (x y : Operand), (eqGuard .eql t x y (.slice ad n cap) (.slice none 0 0)).run P w = .ok () w := fun _ _ => rfl
  have h2 : (Op.equal t (.slice ad n cap) (.slice none 0 0)).run P w = .ok ad.isNone w := heq 9999
  unfold execOp
  simp only [ho]
  rw [hx, he]
  simp [hg, hb, h2]

theorem clone_ok {f : FuncId} {fn : Func} {t : TypeId} {I E : TI} {i0 i1 i2 i3 : Nat} {oA oB oC oD oE oF oG oH : Oper} {xs : List MV} (hT : TIok P c.ti) (hI : c.tv t = some I) (hL : I.isL = true) (hE : c.tv I.elem = some E) (hb1 : 1 ≤ E.bytes)
    (hfty : c.fty (c.key f) = I.elem) (hg : c.gives (c.key f) = false)
    (hf : P.funcs[f]? = some fn) (hname : (fn.name == "runtime.NumGoroutine") = false) (hn : fn.ntmps = 8) (hr : fn.results = #[.tmp 2])
    (hbody : fn.body = some (.seq (.region i0 #[oA] false) (.seq (.seq (.region i1 #[oB, oC] false) (.cond (.tmp 4) (.seq (.region i2 #[oD] false) .ret) .skip)) (.seq (.region i3 #[oE, oF, oG, oH] false) .ret))))
    (hA : IsOp oA 2 (.assign (.const (.slice none 0 0)))) (hB : IsOp oB 3 (.move (.tmp 0))) (hC : IsOp oC 4 (.binOp .eql t (.tmp 3) (.const (.slice none 0 0)) t)) (hD : IsOp oD 2 (.assign (.const (.slice none 0 0))))
    (hEo : IsOp oE 5 (.buildSlice t 0 #[])) (hF : IsOp oF 6 (.move (.tmp 0))) (hG : IsOp oG 7 (.call { callee := .builtin .append, args := #[.tmp 5, .tmp 6], argTypes := #[t, t] })) (hH : IsOp oH 2 (.assign (.tmp 7)))
    (hw : wids E.size xs = true) (hlim : xs.length * E.bytes ≤ 2 ^ 46) : Sound1 P c f [.list xs] (.fresh xs) := by
  obtain ⟨hIt, hIc⟩ := tv_some hI
  obtain ⟨hEi, hEc⟩ := tv_some hE
  obtain ⟨hu, E2, hE2, _, hpos⟩ := TI.isL_of (hT t I hIt) hL
  rw [hEi] at hE2
  cases hE2
  intro φ W Z vs hz hargs himm
  simp only [ArgsIn, hg, Bool.false_eq_true, if_false] at hargs
  obtain ⟨v, u, rfl, ⟨_, hx⟩, hu0⟩ := hargs
  have hu0 : u = [] := hu0
  subst hu0
  obtain ⟨ad, cap, hv, hcap, hnn⟩ : ∃ ad cap, v = .slice ad xs.length cap ∧ xs.length ≤ cap ∧ (0 < xs.length → ad ≠ none) := by
    have hx2 := hx
    generalize hvs : [v] = vs at hx2
    cases hx2 with
    | list ad cap _ blk off esz f g1 g2 g3 g4 g5 => exact ⟨ad, cap, by simpa using hvs, g1, fun h0 hn => by rw [g2 h0] at hn; cases hn⟩
  have hrun : (callFunc f [v].toArray).run P W = .ok (.enter f #[v]) W := by
    have hn2 : ¬ fn.name = "runtime.NumGoroutine" := by simpa using hname
    simp [callFunc, hf, hn2, hbody]
  unfold CallOK
  rw [hrun]
  refine calls_of_wp hf hbody ?_
  rw [hn]
  have ha0 : ({ tmps := #[v] ++ Array.replicate (8 - (#[v] : Array Value).size) undef, defers := [] } : Act) = { tmps := #[v, undef, undef, undef, undef, undef, undef, undef], defers := [] } := rfl
  rw [ha0]
  have hlr1 : List.range (#[oA] : Array Oper).size = [0] := rfl
  have hlr2 : List.range (#[oB, oC] : Array Oper).size = [0, 1] := rfl
  have hlr4 : List.range (#[oE, oF, oG, oH] : Array Oper).size = [0, 1, 2, 3] := rfl
  have hlrD : List.range (#[oD] : Array Oper).size = [0] := rfl
  -- what it ends with
  have fin : ∀ (a : Act) (W' : World) (v' : Value) (cells : List Value), a.defers = [] → a.tmps.getD 2 undef = v' → (∃ φ', Trans Z φ W φ' W' ∧ Imm φ' W' ∧ ResRep c Z φ' W' (c.key f) v' (.fresh xs)) →
      bodyPost P fn (fun x w'' => ∃ v, x = .returned v ∧ ∃ φ', Trans Z φ W φ' w'' ∧ Imm φ' w'' ∧ ResRep c Z φ' w'' (c.key f) v (.fresh xs)) .ret a W' := by
    intro a W' v' cells hd h2 h3
    refine ⟨hd, v', ?_, v', rfl, h3⟩
    have h2' : a.tmps[2]?.getD undef = v' := by simpa using h2
    simp [results, hr, h2']
  refine wp_seq (wp_region ?_)
  rw [hlr1]
  refine wp_val (o := oA) rfl hA.guard (v := .slice none 0 0) (w' := W) (by simp [execOp, hA.op]; rfl) ?_
  rw [hA.dst]
  refine wp_seq (wp_seq (wp_region ?_))
  rw [hlr2]
  refine wp_val (o := oB) rfl hB.guard (v := v) (w' := W) (by simp [execOp, hB.op]; rfl) ?_
  rw [hB.dst]
  refine wp_val (o := oC) rfl hC.guard (v := .bool ad.isNone) (w' := W) (run_isnil hu hC.op (by rw [← hv]; rfl)) ?_
  rw [hC.dst]
  refine wp_cond (t := ad.isNone) rfl ?_
  cases had : ad.isNone with
  | true =>
    have had : ad = none := by simpa using had
    have hxs : xs = [] := by
      cases xs with
      | nil => rfl
      | cons y ys => exact absurd had (hnn (by simp))
    simp only [if_true]
    refine wp_seq (wp_region ?_)
    rw [hlrD]
    refine wp_val (o := oD) rfl hD.guard (v := .slice none 0 0) (w' := W) (by simp [execOp, hD.op]; rfl) ?_
    rw [hD.dst]
    refine wp_ret ?_
    refine fin _ W (.slice none 0 0) [] rfl rfl ⟨φ, .refl _ _ _, himm, ?_⟩
    show FamOK c (Zone.plain Z) (env0 c.key φ) W _ ⟨c.fty (c.key f), false, xs⟩
    rw [hfty, hxs]
    exact ⟨E, [], hEi, hEc, ⟨by simp, .inl ⟨rfl, rfl⟩⟩, rfl, fun blk hb => by simp [Value.ownBlock] at hb⟩
  | false =>
    simp only [Bool.false_eq_true, if_false]
    refine wp_skip ?_
    refine wp_seq (wp_region ?_)
    rw [hlr4]
    have hlit := lit_run (P := P) (c := c) (w := W) (t := t) (I := I) (vs := []) (parts := #[]) hu hEi hEc hpos hT (by simp) (by simp) rfl
    simp only [List.length_nil, List.flatMap_nil] at hlit
    refine wp_val (o := oE) rfl hEo.guard (v := .slice (some ⟨W.heap.size, 0, none⟩) 0 0) (w' := W.alloc (.cells #[] I.elem)) (by simp [execOp, hEo.op, hlit]) ?_
    rw [hEo.dst]
    refine wp_val (o := oF) rfl hF.guard (v := v) (w' := W.alloc (.cells #[] I.elem)) (by simp [execOp, hF.op]; rfl) ?_
    rw [hF.dst]
    obtain ⟨news, hsrc⟩ := src_of himm hpos hx hw
    have hg1 : Grow W (W.alloc (.cells #[] I.elem)) := .alloc W _ _
    have hsrc1 : Src (env0 c.key φ) (W.alloc (.cells #[] I.elem)) E.size v xs news := by
      obtain ⟨ad', cap', q1, q2, q3⟩ := hsrc.val
      exact ⟨hsrc.els, ad', cap', q1, q2, fun x hx j u hj => hg1.cell (q3 x hx j u hj)⟩
    have hown : (W.alloc (.cells #[] I.elem)).ownsRow 0 I.elem E.size (.slice (some ⟨W.heap.size, 0, none⟩) 0 0) 0 [] :=
      ⟨by simp, .inr ⟨W.heap.size, 0, #[], rfl, Nat.zero_le _, heap_alloc_new W _, Nat.le_refl _, Nat.zero_le _, by simp, by simp⟩⟩
    obtain ⟨v', W', hrun2, hap⟩ := append_run (P := P) (c := c) (ty := oG.type) (e := env0 c.key φ) hu hEi hEc hpos hT hb1 hown hsrc1 (by simpa using hlim)
    refine wp_val (o := oG) rfl hG.guard (v := v') (w' := W') (by
      have e1 : ∀ (a : Act), a.eval (.tmp 5) = .slice (some ⟨W.heap.size, 0, none⟩) 0 0 → a.eval (.tmp 6) = v → (execOp a.eval oG).run P (W.alloc (.cells #[] I.elem)) = .ok (.value v') W' := by
        intro a h5 h6
        simp [execOp, hG.op, resolve, invoke, builtin, h5, h6, hrun2]
      exact e1 _ rfl rfl) ?_
    rw [hG.dst]
    refine wp_val (o := oH) rfl hH.guard (v := v') (w' := W') (by simp [execOp, hH.op]; rfl) ?_
    rw [hH.dst]
    refine wp_ret ?_
    refine fin _ W' v' [] rfl rfl ?_
    have hsz : W.heap.size ≤ W'.heap.size := Nat.le_trans hg1.size hap.size
    have hold : ∀ b, b < W.heap.size → W'.heap[b]? = W.heap[b]? := by
      intro b hb
      rw [hap.old b (Nat.lt_of_lt_of_le hb hg1.size) (by simp [Value.ownBlock]; omega)]
      exact hg1.old b hb
    refine ⟨φ, ⟨.refl _, fun b _ hb => hold b hb, fun _ _ _ => rfl, hsz, hg1.rest.trans hap.rest⟩, ?_, ?_⟩
    · intro b o u hbo
      have h1 := himm b o u hbo
      rw [World.cell?_of_block (hold b (World.block_lt_of_cell? W _ h1))]; exact h1
    · show FamOK c (Zone.plain Z) (env0 c.key φ) W' v' ⟨c.fty (c.key f), false, xs⟩
      rw [hfty]
      refine ⟨E, news, hEi, hEc, by simpa using hap.own, hsrc.els, fun blk hb => ?_⟩
      have hblk : W.heap.size ≤ blk := by
        rcases hap.place with h1 | h1
        · rw [h1] at hb; simp [Value.ownBlock] at hb; omega
        · rw [h1] at hb
          cases hb
          exact hg1.size
      refine ⟨hz blk hblk, fun off u hu => ?_, fun hc => hc.elim⟩
      have := World.block_lt_of_cell? W _ (himm _ _ _ hu)
      have : blk < W.heap.size := this
      omega
end

end Dn
/-
  Tables of functions. Conditions: none.
-/
namespace Dn
open Go
/-- a table of functions does what it says -/
structure SoundG (P : Program) (c : Ctx) (g : Nat → List MV → Option MV) : Prop where
  all : ∀ f ms r, g (c.key f) ms = some r → Sound1 P c f ms r
/-- one function more -/
abbrev addG (n : Nat) (F : List MV → Option MV) (g : Nat → List MV → Option MV) : Nat → List MV → Option MV := fun k ms => match Nat.beq k n with | true => F ms | false => g k ms
theorem SoundG.add {P : Program} {c : Ctx} {g : Nat → List MV → Option MV} {n : Nat} {F : List MV → Option MV} (h : SoundG P c g) (hF : ∀ f ms r, c.key f = n → F ms = some r → Sound1 P c f ms r) : SoundG P c (addG n F g) := by
  refine ⟨fun f ms r hr => ?_⟩
  unfold addG at hr
  cases hk : Nat.beq (c.key f) n with
  | true => simp only [hk] at hr; exact hF f ms r (Nat.eq_of_beq_eq_true hk) hr
  | false => simp only [hk] at hr; exact h.all f ms r hr
/-- contexts that differ only in what one function's run looks at -/
structure Like (c c' : Ctx) : Prop where
  ti : c'.ti = c.ti
  key : c'.key = c.key
  gives : c'.gives = c.gives
  fresh : c'.fresh = c.fresh
  fty : c'.fty = c.fty
  fk : c'.fk = c.fk
  mt : c'.mt = c.mt
  sig : c'.sig = c.sig
  dels : c'.dels = c.dels
theorem FamOK.like {c c' : Ctx} (h : c'.ti = c.ti) {Z : Zone} {e : Env} {w : World} {v : Value} {o : Own} (hs : FamOK c Z e w v o) : FamOK c' Z e w v o := by
  obtain ⟨I, cells, h1, h2⟩ := hs.row
  exact ⟨I, cells, by rw [h]; exact h1, h2⟩
theorem ResRep.like {c c' : Ctx} (h : Like c c') {Z : Nat → Prop} {φ : Ph} {w : World} {k : Nat} {v : Value} {r : MV} (hs : ResRep c Z φ w k v r) : ResRep c' Z φ w k v r := by
  cases r <;> simp only [ResRep, h.key, h.fty] at hs ⊢ <;> first | exact hs | exact hs.like h.ti
theorem CellIn.like {c c' : Ctx} (h : Like c c') {Z : Nat → Prop} {φ : Ph} {w : World} {blk : Nat} {ks : List LK} {ls : List MV} (hs : CellIn c Z φ w blk ks ls) : CellIn c' Z φ w blk ks ls := by
  obtain ⟨cs, m, E, arr, T, h1, h2, h3, h4, h5, h6, h7⟩ := hs
  refine ⟨cs, m, E, arr, T, h1, h2, h3, h4, by rw [h.key]; exact h5, fun f o ho => ⟨?_, (h6 f o ho).2⟩, h7⟩
  rw [h.key]
  exact (h6 f o ho).1.like h.ti
theorem ResOK.like {c c' : Ctx} (h : Like c c') {Z : Nat → Prop} {φ : Ph} {w : World} {k : Nat} {vs : List Value} {v : Value} {r : MV} (hs : ResOK c Z φ w k vs v r) : ResOK c' Z φ w k vs v r := by
  cases r <;> simp only [ResOK] at hs ⊢ <;> first | exact hs.like h | skip
  obtain ⟨h1, pos, ks, blk, off, h2, h3, h4⟩ := hs
  exact ⟨h1.like h, pos, ks, blk, off, by rw [h.sig]; exact h2, h3, h4.like h⟩
theorem ArgsIn.like {c c' : Ctx} (h : Like c c') {Z : Nat → Prop} {φ : Ph} {w : World} {k : Nat} {vs : List Value} {ms : List MV} (hs : ArgsIn c' Z φ w k vs ms) : ArgsIn c Z φ w k vs ms := by
  unfold ArgsIn at hs ⊢
  rw [h.gives] at hs
  split
  · rename_i hg
    rw [if_pos hg] at hs
    rcases hs with ⟨v0, v1, v2, xs, m1, ys, h1, h2, h3, h4, h5, h6⟩ | ⟨v0, v1, v2, xs, m1, m2, h1, h2, h3, h4, h5, h6⟩ | ⟨pos, ks, off, ls, blk, h1, h2, h3, h4, h5⟩
    · rw [h.key, h.fty] at h3 h5
      rw [h.key] at h4
      exact .inl ⟨v0, v1, v2, xs, m1, ys, h1, h2, h3.like h.ti.symm, h4, h5.like h.ti.symm, h6⟩
    · rw [h.key, h.fty] at h4
      rw [h.key] at h5 h6
      exact .inr (.inl ⟨v0, v1, v2, xs, m1, m2, h1, h2, h3, h4.like h.ti.symm, h5, h6⟩)
    · refine .inr (.inr ⟨pos, ks, off, ls, blk, by rw [← h.sig]; exact h1, h2, h3, by rw [← h.key]; exact h4, ?_⟩)
      obtain ⟨cs, m, E, arr, T, k1, k2, k3, k4, k5, k6, k7⟩ := h5
      refine ⟨cs, m, E, arr, T, k1, k2, k3, k4, by rw [← h.key]; exact k5, fun f o ho => ⟨?_, (k6 f o ho).2⟩, k7⟩
      rw [← h.key]
      exact (k6 f o ho).1.like h.ti.symm
  · rename_i hg
    rw [if_neg hg, h.key] at hs
    exact hs
theorem CallOK.mono {P : Program} {f : FuncId} {args : Array Value} {w : World} {R R' : Value → World → Prop} (hc : CallOK P f args w R) (h : ∀ v w', R v w' → R' v w') : CallOK P f args w R' := by
  unfold CallOK at hc ⊢
  split
  · rename_i heq
    rw [heq] at hc
    exact Calls.mono hc (fun x w'' ⟨v, e, hr⟩ => ⟨v, e, h v w'' hr⟩)
  · rename_i heq
    rw [heq] at hc
    exact h _ _ hc
  · rename_i h1 h2
    split at hc
    · rename_i heq; exact absurd heq (h1 _ _ _)
    · rename_i heq; exact absurd heq (h2 _ _)
    · exact hc
theorem Sound1.like {P : Program} {c c' : Ctx} {f : Nat} {ms : List MV} {r : MV} (h : Like c c') (hs : Sound1 P c f ms r) : Sound1 P c' f ms r := by
  intro φ w Z vs hz ha hi
  rw [h.key] at ha
  refine (hs φ w Z vs hz (ha.like h) hi).mono ?_
  rintro v w' ⟨φ', h1, h2, h3⟩
  rw [h.key]
  exact ⟨φ', h1, h2, h3.like h⟩
theorem Like.symm {c c' : Ctx} (h : Like c c') : Like c' c := ⟨h.ti.symm, h.key.symm, h.gives.symm, h.fresh.symm, h.fty.symm, h.fk.symm, h.mt.symm, h.sig.symm, h.dels.symm⟩
theorem PredOK.like {P : Program} {c c' : Ctx} (h : Like c c') {g : Nat} {lb : Array Value} {S : Type} {Inv : S → (Nat → Prop) → Ph → World → Prop} {step : S → MV → Option (Bool × S)} (hp : PredOK P c' g lb Inv step) : PredOK P c g lb Inv step :=
  ⟨fun h1 h2 h3 h4 h5 => hp.call h1 h2 h3 (by rw [h.key]; exact h4) h5, hp.frame, hp.mono⟩
theorem DelsOK.like {P : Program} {c c' : Ctx} (h : Like c c') (hd : DelsOK P c) : DelsOK P c' := by
  intro f hf
  rw [h.dels] at hf
  have hx := hd f hf
  refine ⟨?_⟩
  intro S Inv step g lb hp v0 xs ys w Z0 φ0 s0 s' h1 h2 h3 h4 h5 h6 h7
  rw [h.key, h.fty] at h2
  refine (hx.run (hp.like h) h1 (h2.like h.ti.symm) h3 h4 h5 h6 h7).mono ?_
  rintro v W ⟨Z, φ, hW, hF, hb⟩
  refine ⟨Z, φ, ⟨hW.inv, hW.new, hW.sub, hW.imm, hW.tr, hW.free⟩, ?_, hb⟩
  rw [h.key, h.fty]
  exact hF.like h.ti
/-- what is asked of a function's head -/
def headB (c : Ctx) (n : Nat) (fn : Func) (caps : List (List Kd)) : Bool :=
  !(fn.name == "runtime.NumGoroutine") && Nat.beq c.n fn.ntmps && Nat.ble (fn.params.size + caps.length) fn.ntmps && !c.gives n
/-- a function of the program's, out of its abstract run -/
theorem SoundG.body {P : Program} {c c' : Ctx} {g : Nat → List MV → Option MV} {n : Nat} {fn : Func} {caps : List (List Kd)} (h : SoundG P c g) (hl : Like c c') (hgg : c'.g = g) (hti : TIok P c.ti) (heq : EqOK P c.ti) (hfk : ∀ t k, c.fk t = some k → P.underlying t = some (.float k)) (hmt : MapTys P c) (hmix : P.follows .mixedOrders = true) (hdel : DelsOK P c)
    (hf : P.funcs[n]? = some fn) (hh : headB c' n fn caps = true) (hkey : ∀ f, c.key f = f) : SoundG P c (addG n (bodyK c' caps none fn) g) := by
  have hG : Good P c' := by
    refine ⟨by rw [hl.ti]; exact hti, by rw [hl.ti]; exact heq, fun f ms r hr => ?_, by rw [hl.fk]; exact hfk, fun t s hs => hmt t s ?_⟩
    · rw [hgg, hl.key] at hr
      exact (h.all f ms r hr).like hl
    · rw [← hs]; unfold msOf Ctx.tv; rw [hl.mt, hl.ti]
  refine h.add (fun f ms r hk hr => ?_)
  rw [hkey] at hk
  subst hk
  simp only [headB, Bool.and_eq_true, Bool.not_eq_true'] at hh
  obtain ⟨⟨⟨h1, h2⟩, h3⟩, h4⟩ := hh
  exact (body_ok hG (draws_ok hG hmix (hdel.like hl)) hf h1 (Nat.eq_of_beq_eq_true h2) (Nat.le_of_ble_eq_true h3) (by rw [hl.key, hkey]; exact h4) hr).like hl.symm
/-- what is asked of the head of a function that is handed a variable -/
def headC (c : Ctx) (n : Nat) (fn : Func) (caps : List (List Kd)) : Bool :=
  !(fn.name == "runtime.NumGoroutine") && Nat.beq c.n fn.ntmps && Nat.ble fn.ntmps 1000000 && Nat.ble (fn.params.size + caps.length) fn.ntmps && c.gives n
theorem SoundG.fnC {P : Program} {c : Ctx} {g : Nat → List MV → Option MV} {n pos : Nat} {ks : List LK} {fn : Func} {caps : List (List Kd)} {F : List MV → Option MV} (h : SoundG P c g) (hti : TIok P c.ti) (heq : EqOK P c.ti) (hfk : ∀ t k, c.fk t = some k → P.underlying t = some (.float k)) (hmt : MapTys P c) (hmix : P.follows .mixedOrders = true) (hdel : DelsOK P c)
    (hf : P.funcs[n]? = some fn) (hsig : c.sig n = some (pos, ks)) (hkey : ∀ f, c.key f = f) (hF : ∀ {ms r}, F ms = some r → ∃ c' : Ctx, Like c c' ∧ c'.g = g ∧ headC c' n fn caps = true ∧ bodyC c' caps pos ks fn ms = some r) : SoundG P c (addG n F g) := by
  refine h.add (fun f ms r hk hr => ?_)
  rw [hkey] at hk
  subst hk
  obtain ⟨c', hl, hgg, hh, hr⟩ := hF hr
  have hG : Good P c' := by
    refine ⟨by rw [hl.ti]; exact hti, by rw [hl.ti]; exact heq, fun f ms r hr => ?_, by rw [hl.fk]; exact hfk, fun t s hs => hmt t s ?_⟩
    · rw [hgg, hl.key] at hr
      exact (h.all f ms r hr).like hl
    · rw [← hs]; unfold msOf Ctx.tv; rw [hl.mt, hl.ti]
  simp only [headC, Bool.and_eq_true, Bool.not_eq_true'] at hh
  obtain ⟨⟨⟨⟨h1, h2⟩, h2'⟩, h3⟩, h4⟩ := hh
  exact (body_okC hG (draws_ok hG hmix (hdel.like hl)) hf h1 (Nat.eq_of_beq_eq_true h2) (Nat.le_of_ble_eq_true h2') (Nat.le_of_ble_eq_true h3) (by rw [hl.key, hkey]; exact h4) (by rw [hl.sig, hl.key, hkey]; exact hsig) hr).like hl.symm
theorem addG_ne {n k : Nat} {F : List MV → Option MV} {g : Nat → List MV → Option MV} {ms : List MV} (h : Nat.beq k n = false) : addG n F g k ms = g k ms := by simp [addG, h]
end Dn
/-
  Steps through a function of the library by hand. Conditions: none.
-/
set_option linter.unusedSimpArgs false
set_option linter.unusedVariables false
namespace Dn
open Go
def upd (σ : Nat → Value) (d : Nat) (v : Value) : Nat → Value := fun t => bif Nat.beq t d then v else σ t
def ev (σ : Nat → Value) : Operand → Value
  | .tmp t => σ t
  | .const v => v
  | .global g => .pointer (some ⟨g, 0, none⟩)
  | .func f => .func (.func f) #[] #[]
/-- an activation's variables, as a function -/
structure Tm (a : Act) (n : Nat) (σ : Nat → Value) : Prop where
  defers : a.defers = []
  size : a.tmps.size = n
  get : ∀ t, a.tmps.getD t undef = σ t
theorem Tm.eval {a : Act} {n : Nat} {σ : Nat → Value} (h : Tm a n σ) : a.eval = ev σ := by
  funext x
  cases x with
  | tmp t => exact h.get t
  | _ => rfl
theorem Tm.put {a : Act} {n : Nat} {σ : Nat → Value} (h : Tm a n σ) {d : Nat} (hd : d < n) (v : Value) : Tm (a.put (some d) v) n (upd σ d v) := by
  refine ⟨h.defers, by simp [Act.put, h.size], fun t => ?_⟩
  show (a.tmps.setIfInBounds d v).getD t undef = bif Nat.beq t d then v else σ t
  by_cases ht : t = d
  · subst ht
    have : t < a.tmps.size := by rw [h.size]; exact hd
    simp [this]
  · have hb : Nat.beq t d = false := by
      cases hq : Nat.beq t d with
      | false => rfl
      | true => exact absurd (Nat.eq_of_beq_eq_true hq) ht
    rw [hb]
    have := h.get t
    simp only [Array.getD_eq_getD_getElem?, Array.getElem?_setIfInBounds_ne (Ne.symm ht), cond_false] at this ⊢
    exact this

theorem tm3 (v0 v1 v2 : Value) (k : Nat) : Tm { tmps := #[v0, v1, v2] ++ Array.replicate k undef, defers := [] } (k + 3) (upd (upd (upd (fun _ => undef) 0 v0) 1 v1) 2 v2) := by
  refine ⟨rfl, by simp [Nat.add_comm], fun q => ?_⟩
  by_cases h0 : q = 0
  · subst h0; show (#[v0, v1, v2] ++ Array.replicate k undef).getD 0 undef = v0; simp [Array.getElem?_append]
  by_cases h1 : q = 1
  · subst h1; show (#[v0, v1, v2] ++ Array.replicate k undef).getD 1 undef = v1; simp [Array.getElem?_append]
  by_cases h2 : q = 2
  · subst h2; show (#[v0, v1, v2] ++ Array.replicate k undef).getD 2 undef = v2; simp [Array.getElem?_append]
  have e : ∀ {x y : Nat}, x ≠ y → Nat.beq x y = false := fun {x y} h => by
    cases hq : Nat.beq x y with
    | false => rfl
    | true => exact absurd (Nat.eq_of_beq_eq_true hq) h
  simp only [upd, e h0, e h1, e h2, cond_false]
  have h3 : 3 ≤ q := by omega
  simp [Array.getElem?_append, Array.getElem?_replicate, show ¬ q < 3 by omega]
  by_cases hk : q - 3 < k <;> simp [hk]

section
variable {P : Program} {Q : Exit → Act → World → Prop} {ops : Array Oper} {o : Oper} {a : Act} {w w' : World} {n : Nat} {σ : Nat → Value}

theorem Tm.step {i d : Nat} {op : Op} {rest : List Nat} {v : Value} (htm : Tm a n σ) (hi : ops[i]? = some o) (ho : IsOp o d op) (hd : d < n) (hrun : (execOp (ev σ) o).run P w = .ok (.value v) w')
    (h : ∀ a', Tm a' n (upd σ d v) → wpOps P ops Q rest a' w') : wpOps P ops Q (i :: rest) a w := by
  refine wp_val hi ho.guard (v := v) (w' := w') (by rw [htm.eval]; exact hrun) ?_
  rw [ho.dst]
  exact h _ (htm.put hd v)

theorem run_mv {d : Nat} {x : Operand} {e : Operand → Value} (ho : IsOp o d (.move x)) (w : World) : (execOp e o).run P w = .ok (.value (e x)) w := by simp [execOp, ho.op]
theorem run_asg {d : Nat} {x : Operand} {e : Operand → Value} (ho : IsOp o d (.assign x)) (w : World) : (execOp e o).run P w = .ok (.value (e x)) w := by simp [execOp, ho.op]
theorem run_len {d : Nat} {t el : TypeId} {x : Operand} {e : Operand → Value} {ad : Option Addr} {m c : Nat} (ho : IsOp o d (.call { callee := .builtin .len, args := #[x], argTypes := #[t] })) (hu : P.underlying t = some (.slice el)) (hx : e x = .slice ad m c) (w : World) :
    (execOp e o).run P w = .ok (.value (.int .i64 m)) w := by simp [execOp, ho.op, resolve, invoke, builtin, hx, Builtin.len_, goInt, run_underlying hu]
theorem run_cap {d : Nat} {t el : TypeId} {x : Operand} {e : Operand → Value} {ad : Option Addr} {m c : Nat} (ho : IsOp o d (.call { callee := .builtin .cap, args := #[x], argTypes := #[t] })) (hu : P.underlying t = some (.slice el)) (hx : e x = .slice ad m c) (w : World) :
    (execOp e o).run P w = .ok (.value (.int .i64 c)) w := by simp [execOp, ho.op, resolve, invoke, builtin, hx, Builtin.cap_, goInt, run_underlying hu]
theorem run_ibin {d : Nat} {op : BinOp} {t t' : TypeId} {x y : Operand} {e : Operand → Value} {k : IntKind} {p q : Int} {v : Value} (ho : IsOp o d (.binOp op t x y t')) (hx : e x = .int k p) (hy : e y = .int k q)
    (hv : ∀ w : World, (Go.binOp op t (.int k p) (.int k q)).run P w = .ok v w) (w : World) : (execOp e o).run P w = .ok (.value v) w := by
  have hg : (eqGuard op t x y (.int k p) (.int k q)).run P w = .ok () w := by cases op <;> rfl
  simp [execOp, ho.op, hx, hy, hg, hv]
theorem run_ieq {d : Nat} {t t' : TypeId} {x y : Operand} {e : Operand → Value} {p q : Int} (ho : IsOp o d (.binOp .eql t x y t')) (hx : e x = .int .i64 p) (hy : e y = .int .i64 q) (w : World) :
    (execOp e o).run P w = .ok (.value (.bool (decide (p = q)))) w := run_ibin ho hx hy (fun w => by simp [Go.binOp, Op.intCmp]; rfl) w
theorem run_iadd {d : Nat} {t t' : TypeId} {x y : Operand} {e : Operand → Value} {p q : Nat} (ho : IsOp o d (.binOp .add t x y t')) (hx : e x = .int .i64 p) (hy : e y = .int .i64 q) (hl : p + q < 2 ^ 63) (w : World) :
    (execOp e o).run P w = .ok (.value (.int .i64 ((p + q : Nat) : Int))) w := run_ibin ho hx hy (fun w => by
      have : IntKind.i64.wrap ((p : Int) + (q : Int)) = ((p + q : Nat) : Int) := by rw [IntKind.wrap_i64]; omega
      simp [Go.binOp, Op.intArith, this]) w
theorem run_not {d : Nat} {t : TypeId} {x : Operand} {e : Operand → Value} {b : Bool} (ho : IsOp o d (.unOp .not t x)) (hx : e x = .bool b) (w : World) :
    (execOp e o).run P w = .ok (.value (.bool (!b))) w := by simp [execOp, ho.op, hx, Op.unary]
/-- a part of a slice, from some index on -/
theorem run_from {d : Nat} {t el : TypeId} {x y : Operand} {e : Operand → Value} {ad : Option Addr} {m c l size : Nat} {i : TypeInfo} (ho : IsOp o d (.slice t x (some y) none none)) (hu : P.underlying t = some (.slice el)) (hi : P.info? el = some i) (hs : i.size = size)
    (hx : e x = .slice ad m c) (hy : e y = .int .i64 l) (hl : l ≤ m) (w : World) : (execOp e o).run P w = .ok (.value (.slice (if c = l then ad else ad.map (·.add (l * size))) (m - l) (c - l))) w := by
  simp [execOp, ho.op, Instr.sliceAt, Instr.slice, run_underlying hu, hx, hy, Go.sizeOf, typeInfo, hi, hs, Instr.sliceBounds, Instr.sliceBound, asIntOf, hl]
/-- .. up to some index -/
theorem run_upto {d : Nat} {t el : TypeId} {x y : Operand} {e : Operand → Value} {ad : Option Addr} {m c l size : Nat} {i : TypeInfo} (ho : IsOp o d (.slice t x none (some y) none)) (hu : P.underlying t = some (.slice el)) (hi : P.info? el = some i) (hs : i.size = size)
    (hx : e x = .slice ad m c) (hy : e y = .int .i64 l) (hl : l ≤ c) (w : World) : (execOp e o).run P w = .ok (.value (.slice ad l c)) w := by
  have h0 : ∀ q : Addr, q.add 0 = q := fun q => by obtain ⟨b, o, s⟩ := q; cases s <;> simp [Addr.add]
  have : (if c = 0 then ad else ad.map (·.add (0 * size))) = ad := by
    cases ad <;> simp [h0]
  simp [execOp, ho.op, Instr.sliceAt, Instr.slice, run_underlying hu, hx, hy, Go.sizeOf, typeInfo, hi, hs, Instr.sliceBounds, Instr.sliceBound, asIntOf, hl]
  cases ad <;> simp [h0]
theorem run_fromA {d : Nat} {t el : TypeId} {x y : Operand} {e : Operand → Value} {g m c l size : Nat} {i : TypeInfo} (ho : IsOp o d (.slice t x (some y) none none)) (hu : P.underlying t = some (.slice el)) (hi : P.info? el = some i) (hs : i.size = size)
    (hx : e x = .slice (some ⟨g, 0, none⟩) m c) (hy : e y = .int .i64 l) (hl : l ≤ m) (hc : l < c) (w : World) : (execOp e o).run P w = .ok (.value (.slice (some ⟨g, l * size, none⟩) (m - l) (c - l))) w := by
  rw [run_from ho hu hi hs hx hy hl w]
  have : ¬ c = l := by omega
  have h0 : (⟨g, 0, none⟩ : Addr).add (l * size) = ⟨g, l * size, none⟩ := by
    have := Addr.add_mid g 0 (l * size)
    rwa [Nat.zero_add] at this
  simp [this, h0]
theorem run_ext {d : Nat} {x y : Operand} {t1 t2 : TypeId} {f : FuncId} {e : Operand → Value} {v1 v2 v : Value} (ho : IsOp o d (.call { callee := .value (.func f), args := #[x, y], argTypes := #[t1, t2] })) (he : e (.func f) = .func (.func f) #[] #[]) (hx : e x = v1) (hy : e y = v2)
    (h : (callFunc f #[v1, v2]).run P w = .ok (.value v) w') : (execOp e o).run P w = .ok (.value v) w' := by
  simp [execOp, ho.op, resolve, invoke, builtin, he, hx, hy, Deferred.ofValue, h]
theorem run_app2 {d : Nat} {x y : Operand} {t1 t2 : TypeId} {e : Operand → Value} {v1 v2 v : Value} (ho : IsOp o d (.call { callee := .builtin .append, args := #[x, y], argTypes := #[t1, t2] })) (hx : e x = v1) (hy : e y = v2)
    (h : (Builtin.append_ #[t1, t2] o.type #[v1, v2]).run P w = .ok v w') : (execOp e o).run P w = .ok (.value v) w' := by
  simp [execOp, ho.op, resolve, invoke, builtin, hx, hy, h]
theorem run_cpy2 {d : Nat} {x y : Operand} {t1 t2 : TypeId} {e : Operand → Value} {v1 v2 v : Value} (ho : IsOp o d (.call { callee := .builtin .copy, args := #[x, y], argTypes := #[t1, t2] })) (hx : e x = v1) (hy : e y = v2)
    (h : (Builtin.copy_ #[t1, t2] o.type #[v1, v2]).run P w = .ok v w') : (execOp e o).run P w = .ok (.value v) w' := by
  simp [execOp, ho.op, resolve, invoke, builtin, hx, hy, h]
theorem run_copy_wide {dT sT ty elem t : TypeId} {g o dLen dCap sLen sCap size k : Nat} {a : Addr} {cur : Array Value} {cs : List Value} {i : TypeInfo} (hu : P.underlying dT = some (.slice elem)) (hi : P.info? elem = some i) (hs : i.size = size)
    (hg : w.heap[g]? = some (.cells cur t (0, 0))) (hk : Nat.min sLen dLen = k) (hn : cs.length = k * size)
    (hsrc : ∀ (j : Nat) v, cs[j]? = some v → w.cell? (a.add j) = some v) (hfit : o + cs.length ≤ cur.size) (h1 : ∀ v ∈ cs, v.oneCell' = true) :
    (Builtin.copy_ #[dT, sT] ty #[.slice (some ⟨g, o, none⟩) dLen dCap, .slice (some a) sLen sCap]).run P w =
      .ok (goInt k) (w.setRow g (cur.toList.take o ++ cs ++ cur.toList.drop (o + cs.length)).toArray) := by
  have hl := run_loadCells_list (P := P) w a cs hsrc
  have hst := run_storeCells_at P g o t cs 0 cur w hg (by simpa using hfit) h1
  simp only [Nat.add_zero] at hst
  simp [Builtin.copy_, run_underlying hu, Builtin.lenOf, Builtin.firstCells, Go.sizeOf, typeInfo, hi, hs, hk, ← hn, hl, hst]
/-- .. of nothing -/
theorem run_copy_none {dT sT ty elem : TypeId} {dLen dCap sCap : Nat} {ad bs : Option Addr} {i : TypeInfo} (hu : P.underlying dT = some (.slice elem)) (hi : P.info? elem = some i) :
    (Builtin.copy_ #[dT, sT] ty #[.slice ad dLen dCap, .slice bs 0 sCap]).run P w = .ok (goInt 0) w := by
  cases ad <;> cases bs <;> simp [Builtin.copy_, run_underlying hu, Builtin.lenOf, Builtin.firstCells, Go.sizeOf, typeInfo, hi, storeCells, loadCells, loadCellsFrom]

/-- a region whose order is open, whose operations can be run one after the other: all but the last one yield what they yield wherever they stand -/
def inOrd (ops : Array Oper) : Nat → Nat → Array Bool → Bool
  | 0, i, listed => (Region.ready .any ops (listed.setIfInBounds i true)).isEmpty && (Region.ready .any ops listed == [i])
  | k + 1, i, listed => Region.free .any ops listed i && (Region.ready .any ops listed).contains i && inOrd ops k (i + 1) (listed.setIfInBounds i true)
def drawB (ops : Array Oper) : Bool := Region.noSelect ops && Nat.blt 0 ops.size && inOrd ops (ops.size - 1) 0 (Array.replicate ops.size false)
/-- from here on in order -/
structure InOrd (ops : Array Oper) (k i : Nat) (listed : Array Bool) : Prop where
  sel : Region.noSelect ops = true
  ord : inOrd ops k i listed = true
theorem Tm.draw {N : Act → World → Prop} {i d : Nat} {op : Op} {k : Nat} {listed : Array Bool} {v : Value} (htm : Tm a n σ) (hi : ops[i]? = some o) (ho : IsOp o d op) (hd : d < n) (hb : InOrd ops (k + 1) i listed) (hrun : ∀ w, (execOp (ev σ) o).run P w = .ok (.value v) w)
    (h : ∀ a', Tm a' n (upd σ d v) → InOrd ops k (i + 1) (listed.setIfInBounds i true) → wpAny P .any ops (Only N) (k + 1) (listed.setIfInBounds i true) a' w) : wpAny P .any ops (Only N) (k + 2) listed a w := by
  obtain ⟨hs, hb⟩ := hb
  simp only [inOrd, Bool.and_eq_true] at hb
  obtain ⟨⟨h1, h2⟩, h3⟩ := hb
  refine wpAny_take hi hs h1 h2 (fun c a w hq => hq.elim) (v := v) (.inl ⟨by simp [Region.wanted, ho.guard], fun w => by rw [htm.eval]; exact hrun w⟩) ?_
  rw [ho.dst]
  exact h _ (htm.put hd v) ⟨hs, h3⟩
theorem Tm.last {N : Act → World → Prop} {i d : Nat} {op : Op} {listed : Array Bool} {v : Value} (htm : Tm a n σ) (hi : ops[i]? = some o) (ho : IsOp o d op) (hd : d < n) (hb : InOrd ops 0 i listed) (hrun : (execOp (ev σ) o).run P w = .ok (.value v) w')
    (h : ∀ a', Tm a' n (upd σ d v) → N a' w') : wpAny P .any ops (Only N) 1 listed a w := by
  obtain ⟨hs, hb⟩ := hb
  simp only [inOrd, Bool.and_eq_true, List.isEmpty_iff, beq_iff_eq] at hb
  obtain ⟨h1, h2⟩ := hb
  refine wpAny_all h2 (by simp) ?_
  intro j hj
  simp only [List.mem_singleton] at hj
  subst hj
  unfold wpOp
  simp only [hi, Region.wanted, ho.guard, if_true]
  left
  unfold Oper.wp
  rw [htm.eval, hrun, Oper.upon_value, ho.dst]
  exact wpAny_done h1 (h _ (htm.put hd v)) 0
theorem Tm.cond {x : Operand} {b : Bool} {A B : Code} (htm : Tm a n σ) (hx : ev σ x = .bool b) (h : (if b then A else B).wp P Q a w) : (Code.cond x A B).wp P Q a w := by
  refine wp_cond (t := b) (by rw [htm.eval]; exact hx) h
end
end Dn
/-
  slices.Insert of the library, walked. Printed by a program. Conditions: none.
-/
set_option linter.unusedSimpArgs false
set_option linter.unusedVariables false
namespace Dn
open Go
def insCode (r : Nat → Nat) (o : Nat → Oper) (tail : Code) : Code :=
  .seq (.region (r 0) #[o 0] false) (.seq (.region (r 1) #[o 1, o 2, o 3] false) (.seq (.region (r 2) #[o 4, o 5, o 6] false) (.seq (.seq (.region (r 3) #[o 7, o 8] false) (.cond (.tmp 16) (.seq (.region (r 4) #[o 9, o 10] false) .ret) .skip)) (.seq (.region (r 5) #[o 11, o 12, o 13] false) (.seq (.seq (.region (r 6) #[o 14, o 15, o 16] false) (.cond (.tmp 22) (.seq (.region (r 7) #[o 17, o 18, o 19, o 20] false) .ret) .skip)) (.seq (.seq (.region (r 8) #[o 21, o 22, o 23, o 24, o 25, o 26] false) (.cond (.tmp 31) (.seq (.region (r 9) #[o 27, o 28, o 29, o 30, o 31, o 32, o 33, o 34, o 35, o 36] false) (.seq (.region (r 10) #[o 37, o 38, o 39, o 40, o 41] false) (.seq (.region (r 11) #[o 42, o 43, o 44, o 45, o 46, o 47, o 48, o 49, o 50] true) (.seq (.region (r 12) #[o 51, o 52] false) .ret)))) .skip)) (.seq (.region (r 13) #[o 53, o 54, o 55, o 56, o 57, o 58] false) (.seq (.seq (.region (r 14) #[o 59, o 60, o 61, o 62, o 63, o 64, o 65, o 66] false) (.cond (.tmp 68) (.seq (.region (r 15) #[o 67, o 68, o 69, o 70, o 71, o 72, o 73, o 74, o 75] true) (.seq (.region (r 16) #[o 76, o 77, o 78, o 79, o 80] false) (.seq (.region (r 17) #[o 81, o 82] false) .ret))) .skip)) tail))))))))
structure InsOps (t ti tb fo : Nat) (o : Nat → Oper) : Prop where
  h0 : IsOp (o 0) 6 (.assign (.const (.slice none 0 0)))
  h1 : IsOp (o 1) 10 (.move (.tmp 0))
  h2 : IsOp (o 2) 11 (.move (.tmp 1))
  h3 : IsOp (o 3) 12 (.slice t (.tmp 10) (some (.tmp 11)) none none)
  h4 : IsOp (o 4) 13 (.move (.tmp 2))
  h5 : IsOp (o 5) 14 (.call { callee := .builtin .len, args := #[.tmp 13], argTypes := #[t] })
  h6 : IsOp (o 6) 7 (.assign (.tmp 14))
  h7 : IsOp (o 7) 15 (.move (.tmp 7))
  h8 : IsOp (o 8) 16 (.binOp .eql ti (.tmp 15) (.const (.int .i64 0)) ti)
  h9 : IsOp (o 9) 17 (.move (.tmp 0))
  h10 : IsOp (o 10) 6 (.assign (.tmp 17))
  h11 : IsOp (o 11) 18 (.move (.tmp 0))
  h12 : IsOp (o 12) 19 (.call { callee := .builtin .len, args := #[.tmp 18], argTypes := #[t] })
  h13 : IsOp (o 13) 8 (.assign (.tmp 19))
  h14 : IsOp (o 14) 20 (.move (.tmp 1))
  h15 : IsOp (o 15) 21 (.move (.tmp 8))
  h16 : IsOp (o 16) 22 (.binOp .eql ti (.tmp 20) (.tmp 21) ti)
  h17 : IsOp (o 17) 23 (.move (.tmp 0))
  h18 : IsOp (o 18) 24 (.move (.tmp 2))
  h19 : IsOp (o 19) 25 (.call { callee := .builtin .append, args := #[.tmp 23, .tmp 24], argTypes := #[t, t] })
  h20 : IsOp (o 20) 6 (.assign (.tmp 25))
  h21 : IsOp (o 21) 26 (.move (.tmp 8))
  h22 : IsOp (o 22) 27 (.move (.tmp 7))
  h23 : IsOp (o 23) 28 (.binOp .add ti (.tmp 26) (.tmp 27) ti)
  h24 : IsOp (o 24) 29 (.move (.tmp 0))
  h25 : IsOp (o 25) 30 (.call { callee := .builtin .cap, args := #[.tmp 29], argTypes := #[t] })
  h26 : IsOp (o 26) 31 (.binOp .gtr ti (.tmp 28) (.tmp 30) ti)
  h27 : IsOp (o 27) 32 (.move (.tmp 0))
  h28 : IsOp (o 28) 33 (.move (.tmp 1))
  h29 : IsOp (o 29) 34 (.slice t (.tmp 32) none (some (.tmp 33)) none)
  h30 : IsOp (o 30) 35 (.move (.tmp 8))
  h31 : IsOp (o 31) 36 (.move (.tmp 7))
  h32 : IsOp (o 32) 37 (.binOp .add ti (.tmp 35) (.tmp 36) ti)
  h33 : IsOp (o 33) 38 (.move (.tmp 1))
  h34 : IsOp (o 34) 39 (.binOp .sub ti (.tmp 37) (.tmp 38) ti)
  h35 : IsOp (o 35) 40 (.call { callee := .builtin .append, args := #[.tmp 34, .tmp 39], argTypes := #[t, ti] })
  h36 : IsOp (o 36) 9 (.assign (.tmp 40))
  h37 : IsOp (o 37) 41 (.move (.tmp 9))
  h38 : IsOp (o 38) 42 (.move (.tmp 1))
  h39 : IsOp (o 39) 43 (.slice t (.tmp 41) (some (.tmp 42)) none none)
  h40 : IsOp (o 40) 44 (.move (.tmp 2))
  h41 : IsOp (o 41) 45 (.call { callee := .builtin .copy, args := #[.tmp 43, .tmp 44], argTypes := #[t, t] })
  h42 : IsOp (o 42) 46 (.move (.tmp 9))
  h43 : IsOp (o 43) 47 (.move (.tmp 1))
  h44 : IsOp (o 44) 48 (.move (.tmp 7))
  h45 : IsOp (o 45) 49 (.binOp .add ti (.tmp 47) (.tmp 48) ti)
  h46 : IsOp (o 46) 50 (.slice t (.tmp 46) (some (.tmp 49)) none none)
  h47 : IsOp (o 47) 51 (.move (.tmp 0))
  h48 : IsOp (o 48) 52 (.move (.tmp 1))
  h49 : IsOp (o 49) 53 (.slice t (.tmp 51) (some (.tmp 52)) none none)
  h50 : IsOp (o 50) 54 (.call { callee := .builtin .copy, args := #[.tmp 50, .tmp 53], argTypes := #[t, t] })
  h51 : IsOp (o 51) 55 (.move (.tmp 9))
  h52 : IsOp (o 52) 6 (.assign (.tmp 55))
  h53 : IsOp (o 53) 56 (.move (.tmp 0))
  h54 : IsOp (o 54) 57 (.move (.tmp 8))
  h55 : IsOp (o 55) 58 (.move (.tmp 7))
  h56 : IsOp (o 56) 59 (.binOp .add ti (.tmp 57) (.tmp 58) ti)
  h57 : IsOp (o 57) 60 (.slice t (.tmp 56) none (some (.tmp 59)) none)
  h58 : IsOp (o 58) 0 (.assign (.tmp 60))
  h59 : IsOp (o 59) 61 (.move (.tmp 2))
  h60 : IsOp (o 60) 62 (.move (.tmp 0))
  h61 : IsOp (o 61) 63 (.move (.tmp 1))
  h62 : IsOp (o 62) 64 (.move (.tmp 7))
  h63 : IsOp (o 63) 65 (.binOp .add ti (.tmp 63) (.tmp 64) ti)
  h64 : IsOp (o 64) 66 (.slice t (.tmp 62) (some (.tmp 65)) none none)
  h65 : IsOp (o 65) 67 (.call { callee := .value (.func fo), args := #[.tmp 61, .tmp 66], argTypes := #[t, t] })
  h66 : IsOp (o 66) 68 (.unOp .not tb (.tmp 67))
  h67 : IsOp (o 67) 69 (.move (.tmp 0))
  h68 : IsOp (o 68) 70 (.move (.tmp 1))
  h69 : IsOp (o 69) 71 (.move (.tmp 7))
  h70 : IsOp (o 70) 72 (.binOp .add ti (.tmp 70) (.tmp 71) ti)
  h71 : IsOp (o 71) 73 (.slice t (.tmp 69) (some (.tmp 72)) none none)
  h72 : IsOp (o 72) 74 (.move (.tmp 0))
  h73 : IsOp (o 73) 75 (.move (.tmp 1))
  h74 : IsOp (o 74) 76 (.slice t (.tmp 74) (some (.tmp 75)) none none)
  h75 : IsOp (o 75) 77 (.call { callee := .builtin .copy, args := #[.tmp 73, .tmp 76], argTypes := #[t, t] })
  h76 : IsOp (o 76) 78 (.move (.tmp 0))
  h77 : IsOp (o 77) 79 (.move (.tmp 1))
  h78 : IsOp (o 78) 80 (.slice t (.tmp 78) (some (.tmp 79)) none none)
  h79 : IsOp (o 79) 81 (.move (.tmp 2))
  h80 : IsOp (o 80) 82 (.call { callee := .builtin .copy, args := #[.tmp 80, .tmp 81], argTypes := #[t, t] })
  h81 : IsOp (o 81) 83 (.move (.tmp 0))
  h82 : IsOp (o 82) 6 (.assign (.tmp 83))
  d11 : drawB #[o 42, o 43, o 44, o 45, o 46, o 47, o 48, o 49, o 50] = true
  d15 : drawB #[o 67, o 68, o 69, o 70, o 71, o 72, o 73, o 74, o 75] = true
structure InsFn (P : Program) (f t ti tb el fo : Nat) (fn : Func) (r : Nat → Nat) (o : Nat → Oper) (tail : Code) : Prop where
  pos : P.funcs[f]? = some fn
  name : (fn.name == "runtime.NumGoroutine") = false
  tmps : fn.ntmps = 95
  res : fn.results = #[.tmp 6]
  body : fn.body = some (insCode r o tail)
  ops : InsOps t ti tb fo o
  mix : P.follows .mixedOrders = true
  und : P.underlying t = some (.slice el)
section
variable {P : Program} {f t ti tb el fo : Nat} {fn : Func} {r : Nat → Nat} {o : Nat → Oper} {tail : Code} {ie : TypeInfo} {size n m c c2 i g g2 : Nat} {ad : Option Addr} {w : World}
theorem ins_ret {a : Act} {w : World} {σ : Nat → Value} {R : Ending → World → Prop} {v : Value} (hr : fn.results = #[.tmp 6]) (htm : Tm a 95 σ) (h6 : σ 6 = v) (h : R (.returned v) w) : bodyPost P fn R .ret a w := by
  refine ⟨htm.defers, v, ?_, h⟩
  have h2 : a.tmps[6]?.getD undef = v := by have := htm.get 6; rw [h6] at this; simpa using this
  simp [results, hr, h2]
theorem ins_end (hf : InsFn P f t ti tb el fo fn r o tail) (hie : P.info? el = some ie) (hse : ie.size = size) (hm : 0 < m) (hn : n ≤ c) (hc : c < 2 ^ 63) (hnm : n + m < 2 ^ 63) (hi : i = n) {v : Value} {w1 : World} (hrun : ∀ ty, (Builtin.append_ #[t, t] ty #[.slice ad n c, .slice (some ⟨g2, 0, none⟩) m c2]).run P w = .ok v w1)
    : Calls P f #[.slice ad n c, .int .i64 ((i : Nat) : Int), .slice (some ⟨g2, 0, none⟩) m c2] w fun x w' => x = .returned v ∧ w' = w1 := by
  refine calls_of_wp hf.pos hf.body ?_
  rw [hf.tmps]
  have key : ∀ a : Act, Tm a 95 (upd (upd (upd (fun _ => undef) 0 (.slice ad n c)) 1 (.int .i64 ((i : Nat) : Int))) 2 (.slice (some ⟨g2, 0, none⟩) m c2)) → (insCode r o tail).wp P (bodyPost P fn fun x w' => x = .returned v ∧ w' = w1) a w := by
   intro a htm
   unfold insCode
   refine wp_seq (wp_region ?_)
   rw [show List.range (#[o 0] : Array Oper).size = [0] from rfl]
   refine htm.step (v := .slice none 0 0) rfl hf.ops.h0 (by decide) (run_asg hf.ops.h0 _) (fun a htm => ?_)
   refine wp_seq (wp_region ?_)
   rw [show List.range (#[o 1, o 2, o 3] : Array Oper).size = [0, 1, 2] from rfl]
   refine htm.step (v := .slice ad n c) rfl hf.ops.h1 (by decide) (run_mv hf.ops.h1 _) (fun a htm => ?_)
   refine htm.step (v := .int .i64 ((i : Nat) : Int)) rfl hf.ops.h2 (by decide) (run_mv hf.ops.h2 _) (fun a htm => ?_)
   refine htm.step (v := .slice (if c = i then ad else (ad : Option Addr).map (·.add (i * size))) (n - i) (c - i)) rfl hf.ops.h3 (by decide) (run_from hf.ops.h3 hf.und hie hse rfl rfl (by omega) _) (fun a htm => ?_)
   refine wp_seq (wp_region ?_)
   rw [show List.range (#[o 4, o 5, o 6] : Array Oper).size = [0, 1, 2] from rfl]
   refine htm.step (v := .slice (some ⟨g2, 0, none⟩) m c2) rfl hf.ops.h4 (by decide) (run_mv hf.ops.h4 _) (fun a htm => ?_)
   refine htm.step (v := .int .i64 ((m : Nat) : Int)) rfl hf.ops.h5 (by decide) (run_len hf.ops.h5 hf.und rfl _) (fun a htm => ?_)
   refine htm.step (v := .int .i64 ((m : Nat) : Int)) rfl hf.ops.h6 (by decide) (run_asg hf.ops.h6 _) (fun a htm => ?_)
   refine wp_seq ?_
   refine wp_seq (wp_region ?_)
   rw [show List.range (#[o 7, o 8] : Array Oper).size = [0, 1] from rfl]
   refine htm.step (v := .int .i64 ((m : Nat) : Int)) rfl hf.ops.h7 (by decide) (run_mv hf.ops.h7 _) (fun a htm => ?_)
   refine htm.step (v := .bool (decide (((m : Nat) : Int) = ((0 : Nat) : Int)))) rfl hf.ops.h8 (by decide) (run_ieq hf.ops.h8 rfl rfl _) (fun a htm => ?_)
   refine htm.cond (b := false) (by show Value.bool (decide (((m : Nat) : Int) = ((0 : Nat) : Int))) = _; rw [decide_eq_false (by omega)]) ?_
   simp only [Bool.false_eq_true, if_false]
   refine wp_skip ?_
   refine wp_seq (wp_region ?_)
   rw [show List.range (#[o 11, o 12, o 13] : Array Oper).size = [0, 1, 2] from rfl]
   refine htm.step (v := .slice ad n c) rfl hf.ops.h11 (by decide) (run_mv hf.ops.h11 _) (fun a htm => ?_)
   refine htm.step (v := .int .i64 ((n : Nat) : Int)) rfl hf.ops.h12 (by decide) (run_len hf.ops.h12 hf.und rfl _) (fun a htm => ?_)
   refine htm.step (v := .int .i64 ((n : Nat) : Int)) rfl hf.ops.h13 (by decide) (run_asg hf.ops.h13 _) (fun a htm => ?_)
   refine wp_seq ?_
   refine wp_seq (wp_region ?_)
   rw [show List.range (#[o 14, o 15, o 16] : Array Oper).size = [0, 1, 2] from rfl]
   refine htm.step (v := .int .i64 ((i : Nat) : Int)) rfl hf.ops.h14 (by decide) (run_mv hf.ops.h14 _) (fun a htm => ?_)
   refine htm.step (v := .int .i64 ((n : Nat) : Int)) rfl hf.ops.h15 (by decide) (run_mv hf.ops.h15 _) (fun a htm => ?_)
   refine htm.step (v := .bool (decide (((i : Nat) : Int) = ((n : Nat) : Int)))) rfl hf.ops.h16 (by decide) (run_ieq hf.ops.h16 rfl rfl _) (fun a htm => ?_)
   refine htm.cond (b := true) (by show Value.bool (decide (((i : Nat) : Int) = ((n : Nat) : Int))) = _; rw [decide_eq_true (by omega)]) ?_
   simp only [if_true]
   refine wp_seq (wp_region ?_)
   rw [show List.range (#[o 17, o 18, o 19, o 20] : Array Oper).size = [0, 1, 2, 3] from rfl]
   refine htm.step (v := .slice ad n c) rfl hf.ops.h17 (by decide) (run_mv hf.ops.h17 _) (fun a htm => ?_)
   refine htm.step (v := .slice (some ⟨g2, 0, none⟩) m c2) rfl hf.ops.h18 (by decide) (run_mv hf.ops.h18 _) (fun a htm => ?_)
   refine htm.step (v := v) rfl hf.ops.h19 (by decide) (run_app2 hf.ops.h19 rfl rfl (hrun _)) (fun a htm => ?_)
   refine htm.step (v := v) rfl hf.ops.h20 (by decide) (run_asg hf.ops.h20 _) (fun a htm => ?_)
   refine wp_ret ?_
   show bodyPost P fn (fun x wq => x = .returned (v) ∧ wq = w1) .ret a w1
   refine ins_ret hf.res htm (v := v) rfl ?_
   exact ⟨rfl, rfl⟩
  exact key _ (tm3 _ _ _ 92)
end
end Dn
/-
  What slices.Insert does to a slice of its own. Conditions: none.
-/
set_option linter.unusedSimpArgs false
set_option linter.unusedVariables false
namespace Dn
open Go
section
variable {key : Nat → Nat} {φ : Ph} {size : Nat}
theorem ElemsRep.take {xs : List MV} : ∀ {cs : List Value} (i : Nat), ElemsRep key φ size cs xs → ElemsRep key φ size (cs.take (i * size)) (xs.take i) := by
  induction xs with
  | nil => intro cs i h; cases h; simp [ElemsRep]
  | cons x xs ih =>
    intro cs i h
    obtain ⟨v, q, rfl, h1, h2, h3⟩ := h
    cases i with
    | zero => simp [ElemsRep]
    | succ i =>
      refine ⟨v, q.take (i * size), ?_, h1, h2, ih i h3⟩
      rw [Nat.add_mul, Nat.one_mul, Nat.add_comm, List.take_append, h1]
      congr 1
      · exact List.take_of_length_le (by omega)
      · congr 1; omega
theorem ElemsRep.drop {xs : List MV} : ∀ {cs : List Value} (i : Nat), ElemsRep key φ size cs xs → ElemsRep key φ size (cs.drop (i * size)) (xs.drop i) := by
  induction xs with
  | nil => intro cs i h; cases h; simp [ElemsRep]
  | cons x xs ih =>
    intro cs i h
    cases i with
    | zero => simpa using h
    | succ i =>
      obtain ⟨v, q, rfl, h1, h2, h3⟩ := h
      have := ih i h3
      rw [Nat.add_mul, Nat.one_mul, Nat.add_comm, List.drop_append, h1, List.drop_of_length_le (by omega), List.nil_append, Nat.add_sub_cancel_left]
      simpa using this
end
section
variable {P : Program} {c : Ctx} {f : Nat} {W W' : World} {φ : Ph} {Z : Nat → Prop} {v0 v' : Value}
/-- the row that is left -/
theorem row_mid {A cur : List Value} {cells news : List Value} {p q r : Nat} (hA : A.length = cur.length) (hp : p + news.length = q) (hc : cells.length = r) (hpr : p ≤ r) (hfit : r + news.length ≤ cur.length)
    (h1 : A.take p = cells.take p) (h2 : (A.drop q).take (r - p) = cells.drop p) : (A.take p ++ news ++ A.drop q).take (r + news.length) = cells.take p ++ news ++ cells.drop p := by
  have hl : (A.take p).length = p := by rw [List.length_take]; omega
  rw [List.take_append, List.length_append, hl, hp, List.take_of_length_le (by rw [List.length_append, hl]; omega), h1]
  congr 1
  rw [show r + news.length - q = r - p by omega]
  exact h2

end
end Dn
/-
  slices.Delete of the library, walked. Conditions: none.
-/
set_option linter.unusedSimpArgs false
set_option linter.unusedVariables false
namespace Dn
open Go
/-- an operation that yields nothing -/
structure IsOp0 (o : Oper) (op : Op) : Prop where
  dst : o.dst = none
  op : o.op = op
  guard : o.guard = none
section
variable {P : Program} {Q : Exit → Act → World → Prop} {ops : Array Oper} {o : Oper} {a : Act} {w w' : World} {n : Nat} {σ : Nat → Value}
theorem Tm.step0 {i : Nat} {op : Op} {rest : List Nat} {v : Value} (htm : Tm a n σ) (hi : ops[i]? = some o) (ho : IsOp0 o op) (hrun : (execOp (ev σ) o).run P w = .ok (.value v) w')
    (h : wpOps P ops Q rest a w') : wpOps P ops Q (i :: rest) a w := by
  refine wp_val hi ho.guard (v := v) (w' := w') (by rw [htm.eval]; exact hrun) ?_
  rw [ho.dst]; exact h
/-- in order, but for the last two, each of which stands alone when its turn comes -/
def inOrd2 (ops : Array Oper) : Nat → Nat → Array Bool → Bool
  | 0, i, listed => (Region.ready .any ops listed == [i]) && (Region.ready .any ops (listed.setIfInBounds i true) == [i + 1]) && (Region.ready .any ops ((listed.setIfInBounds i true).setIfInBounds (i + 1) true)).isEmpty
  | k + 1, i, listed => Region.free .any ops listed i && (Region.ready .any ops listed).contains i && inOrd2 ops k (i + 1) (listed.setIfInBounds i true)
def drawB2 (ops : Array Oper) : Bool := Region.noSelect ops && Nat.blt 1 ops.size && inOrd2 ops (ops.size - 2) 0 (Array.replicate ops.size false)
structure InOrd2 (ops : Array Oper) (k i : Nat) (listed : Array Bool) : Prop where
  sel : Region.noSelect ops = true
  ord : inOrd2 ops k i listed = true
/-- a part of a slice, with a bound on its room -/
theorem run_three {d : Nat} {t el : TypeId} {x y z m3 : Operand} {e : Operand → Value} {ad : Option Addr} {m c l h k : Nat} {i : TypeInfo} (ho : IsOp o d (.slice t x (some y) (some z) (some m3))) (hu : P.underlying t = some (.slice el)) (hi : P.info? el = some i)
    (hx : e x = .slice ad m c) (hy : e y = .int .i64 l) (hz : e z = .int .i64 h) (hm : e m3 = .int .i64 k) (h1 : l ≤ h) (h2 : h ≤ k) (h3 : k ≤ c) (w : World) : (execOp e o).run P w = .ok (.value (.slice (if k = l then ad else ad.map (·.add (l * i.size))) (h - l) (k - l))) w := by
  simp [execOp, ho.op, Instr.sliceAt, Instr.slice, run_underlying hu, hx, hy, hz, hm, Go.sizeOf, typeInfo, hi, Instr.sliceBounds, Instr.sliceBound, asIntOf, h1, h2, h3]
/-- .. between two indexes -/
theorem run_between {d : Nat} {t el : TypeId} {x y z : Operand} {e : Operand → Value} {ad : Option Addr} {m c l h size : Nat} {i : TypeInfo} (ho : IsOp o d (.slice t x (some y) (some z) none)) (hu : P.underlying t = some (.slice el)) (hi : P.info? el = some i) (hs : i.size = size)
    (hx : e x = .slice ad m c) (hy : e y = .int .i64 l) (hz : e z = .int .i64 h) (h1 : l ≤ h) (h2 : h ≤ c) (w : World) : (execOp e o).run P w = .ok (.value (.slice (if c = l then ad else ad.map (·.add (l * size))) (h - l) (c - l))) w := by
  simp [execOp, ho.op, Instr.sliceAt, Instr.slice, run_underlying hu, hx, hy, hz, Go.sizeOf, typeInfo, hi, hs, Instr.sliceBounds, Instr.sliceBound, asIntOf, h1, h2]
theorem run_clr {x : Operand} {t1 : TypeId} {e : Operand → Value} {v1 v : Value} (ho : IsOp0 o (.call { callee := .builtin .clear, args := #[x], argTypes := #[t1] })) (hx : e x = v1)
    (h : (Builtin.clear_ #[t1] o.type #[v1]).run P w = .ok v w') : (execOp e o).run P w = .ok (.value v) w' := by
  simp [execOp, ho.op, resolve, invoke, builtin, hx, h]
theorem run_clear_wide {t ty elem t2 : TypeId} {g off n c size : Nat} {z : Value} {cur : Array Value} {i : TypeInfo} (hu : P.underlying t = some (.slice elem)) (hi : P.info? elem = some i) (hz : i.zero = some z) (hzs : z.cells.size = size) (h1 : ∀ v ∈ z.cells.toList, v.oneCell' = true)
    (hg : w.heap[g]? = some (.cells cur t2 (0, 0))) (hn : 0 < n) (hfit : off + n * size ≤ cur.size) :
    ∃ zs : List Value, zs.length = n * size ∧ (Builtin.clear_ #[t] ty #[.slice (some ⟨g, off, none⟩) n c]).run P w = .ok (.tuple #[]) (w.setRow g (cur.toList.take off ++ zs ++ cur.toList.drop (off + zs.length)).toArray) := by
  refine ⟨(Builtin.zeroCells z.cells n).toList, ?_, ?_⟩
  · simp [Builtin.zeroCells, hzs]
  · have hl : (Builtin.zeroCells z.cells n).toList.length = n * size := by simp [Builtin.zeroCells, hzs]
    have hst := run_storeCells_at P g off t2 (Builtin.zeroCells z.cells n).toList 0 cur w hg (by rw [hl]; simpa using hfit) (by
      intro v hv
      simp only [Builtin.zeroCells, Array.toList_map, List.mem_map, Array.mem_toList_iff, Array.mem_range] at hv
      obtain ⟨j, hj, rfl⟩ := hv
      have hpos : 0 < z.cells.size := by
        rcases Nat.eq_zero_or_pos z.cells.size with h0 | h0
        · rw [h0] at hj; omega
        · exact h0
      have hlt : j % z.cells.size < z.cells.size := Nat.mod_lt _ hpos
      rw [getElem!_pos z.cells _ hlt]
      exact h1 _ (by simp))
    simp only [Nat.add_zero] at hst
    obtain ⟨m, rfl⟩ : ∃ m, n = m + 1 := ⟨n - 1, by omega⟩
    simp [Builtin.clear_, run_underlying hu, zeroValue, typeInfo, hi, hz, hst]
end
theorem setRow_at {w : World} {g : Nat} {cur : Array Value} {t : TypeId} {fr : Nat × Nat} (cs : Array Value) (hg : w.heap[g]? = some (.cells cur t fr)) : (w.setRow g cs).heap[g]? = some (.cells cs t fr) := by
  simp [World.setRow, Array.getElem?_modify, hg]
def delCode (r : Nat → Nat) (o : Nat → Oper) : Code :=
  .seq (.region (r 0) #[o 0] false) (.seq (.region (r 1) #[o 1, o 2, o 3, o 4, o 5, o 6] false) (.seq (.seq (.region (r 2) #[o 7, o 8, o 9] false) (.cond (.tmp 16) (.seq (.region (r 3) #[o 10, o 11] false) .ret) .skip)) (.seq (.region (r 4) #[o 12, o 13, o 14] false) (.seq (.region (r 5) #[o 15, o 16, o 17, o 18, o 19, o 20, o 21, o 22] true) (.seq (.region (r 6) #[o 23, o 24, o 25, o 26, o 27, o 28] false) (.seq (.region (r 7) #[o 29, o 30] false) .ret))))))
structure DelOps (t ti : Nat) (o : Nat → Oper) : Prop where
  h0 : IsOp (o 0) 6 (.assign (.const (.slice none 0 0)))
  h1 : IsOp (o 1) 8 (.move (.tmp 0))
  h2 : IsOp (o 2) 9 (.move (.tmp 1))
  h3 : IsOp (o 3) 10 (.move (.tmp 2))
  h4 : IsOp (o 4) 11 (.move (.tmp 0))
  h5 : IsOp (o 5) 12 (.call { callee := .builtin .len, args := #[.tmp 11], argTypes := #[t] })
  h6 : IsOp (o 6) 13 (.slice t (.tmp 8) (some (.tmp 9)) (some (.tmp 10)) (some (.tmp 12)))
  h7 : IsOp (o 7) 14 (.move (.tmp 1))
  h8 : IsOp (o 8) 15 (.move (.tmp 2))
  h9 : IsOp (o 9) 16 (.binOp .eql ti (.tmp 14) (.tmp 15) ti)
  h10 : IsOp (o 10) 17 (.move (.tmp 0))
  h11 : IsOp (o 11) 6 (.assign (.tmp 17))
  h12 : IsOp (o 12) 18 (.move (.tmp 0))
  h13 : IsOp (o 13) 19 (.call { callee := .builtin .len, args := #[.tmp 18], argTypes := #[t] })
  h14 : IsOp (o 14) 7 (.assign (.tmp 19))
  h15 : IsOp (o 15) 20 (.move (.tmp 0))
  h16 : IsOp (o 16) 21 (.move (.tmp 1))
  h17 : IsOp (o 17) 22 (.slice t (.tmp 20) none (some (.tmp 21)) none)
  h18 : IsOp (o 18) 23 (.move (.tmp 0))
  h19 : IsOp (o 19) 24 (.move (.tmp 2))
  h20 : IsOp (o 20) 25 (.slice t (.tmp 23) (some (.tmp 24)) none none)
  h21 : IsOp (o 21) 26 (.call { callee := .builtin .append, args := #[.tmp 22, .tmp 25], argTypes := #[t, t] })
  h22 : IsOp (o 22) 0 (.assign (.tmp 26))
  h23 : IsOp (o 23) 27 (.move (.tmp 0))
  h24 : IsOp (o 24) 28 (.move (.tmp 0))
  h25 : IsOp (o 25) 29 (.call { callee := .builtin .len, args := #[.tmp 28], argTypes := #[t] })
  h26 : IsOp (o 26) 30 (.move (.tmp 7))
  h27 : IsOp (o 27) 31 (.slice t (.tmp 27) (some (.tmp 29)) (some (.tmp 30)) none)
  h28 : IsOp0 (o 28) (.call { callee := .builtin .clear, args := #[.tmp 31], argTypes := #[t] })
  h29 : IsOp (o 29) 32 (.move (.tmp 0))
  h30 : IsOp (o 30) 6 (.assign (.tmp 32))
  d5 : drawB2 #[o 15, o 16, o 17, o 18, o 19, o 20, o 21, o 22] = true
structure DelFn (P : Program) (f t ti el : Nat) (fn : Func) (r : Nat → Nat) (o : Nat → Oper) : Prop where
  pos : P.funcs[f]? = some fn
  name : (fn.name == "runtime.NumGoroutine") = false
  tmps : fn.ntmps = 33
  res : fn.results = #[.tmp 6]
  body : fn.body = some (delCode r o)
  ops : DelOps t ti o
  mix : P.follows .mixedOrders = true
  und : P.underlying t = some (.slice el)
section
variable {P : Program} {f t ti el : Nat} {fn : Func} {r : Nat → Nat} {o : Nat → Oper} {ie : TypeInfo} {size n c i j g : Nat} {ad : Option Addr} {w : World}
theorem del_ret {a : Act} {w : World} {σ : Nat → Value} {R : Ending → World → Prop} {v : Value} (hr : fn.results = #[.tmp 6]) (htm : Tm a 33 σ) (h6 : σ 6 = v) (h : R (.returned v) w) : bodyPost P fn R .ret a w := by
  refine ⟨htm.defers, v, ?_, h⟩
  have h2 : a.tmps[6]?.getD undef = v := by have := htm.get 6; rw [h6] at this; simpa using this
  simp [results, hr, h2]
theorem del_none (hf : DelFn P f t ti el fn r o) (hie : P.info? el = some ie) (hn : n ≤ c) (hi : i ≤ n) :
    Calls P f #[.slice ad n c, .int .i64 ((i : Nat) : Int), .int .i64 ((i : Nat) : Int)] w fun x w' => x = .returned (.slice ad n c) ∧ w' = w := by
  refine calls_of_wp hf.pos hf.body ?_
  rw [hf.tmps]
  have key : ∀ a : Act, Tm a 33 (upd (upd (upd (fun _ => undef) 0 (.slice ad n c)) 1 (.int .i64 ((i : Nat) : Int))) 2 (.int .i64 ((i : Nat) : Int))) → (delCode r o).wp P (bodyPost P fn fun x w' => x = .returned (.slice ad n c) ∧ w' = w) a w := by
   intro a htm
   unfold delCode
   refine wp_seq (wp_region ?_)
   rw [show List.range (#[o 0] : Array Oper).size = [0] from rfl]
   refine htm.step (v := .slice none 0 0) rfl hf.ops.h0 (by decide) (run_asg hf.ops.h0 _) (fun a htm => ?_)
   refine wp_seq (wp_region ?_)
   rw [show List.range (#[o 1, o 2, o 3, o 4, o 5, o 6] : Array Oper).size = [0, 1, 2, 3, 4, 5] from rfl]
   refine htm.step (v := .slice ad n c) rfl hf.ops.h1 (by decide) (run_mv hf.ops.h1 _) (fun a htm => ?_)
   refine htm.step (v := .int .i64 ((i : Nat) : Int)) rfl hf.ops.h2 (by decide) (run_mv hf.ops.h2 _) (fun a htm => ?_)
   refine htm.step (v := .int .i64 ((i : Nat) : Int)) rfl hf.ops.h3 (by decide) (run_mv hf.ops.h3 _) (fun a htm => ?_)
   refine htm.step (v := .slice ad n c) rfl hf.ops.h4 (by decide) (run_mv hf.ops.h4 _) (fun a htm => ?_)
   refine htm.step (v := .int .i64 ((n : Nat) : Int)) rfl hf.ops.h5 (by decide) (run_len hf.ops.h5 hf.und rfl _) (fun a htm => ?_)
   refine htm.step rfl hf.ops.h6 (by decide) (run_three hf.ops.h6 hf.und hie rfl rfl rfl rfl (Nat.le_refl _) hi hn _) (fun a htm => ?_)
   refine wp_seq ?_
   refine wp_seq (wp_region ?_)
   rw [show List.range (#[o 7, o 8, o 9] : Array Oper).size = [0, 1, 2] from rfl]
   refine htm.step (v := .int .i64 ((i : Nat) : Int)) rfl hf.ops.h7 (by decide) (run_mv hf.ops.h7 _) (fun a htm => ?_)
   refine htm.step (v := .int .i64 ((i : Nat) : Int)) rfl hf.ops.h8 (by decide) (run_mv hf.ops.h8 _) (fun a htm => ?_)
   refine htm.step (v := .bool (decide (((i : Nat) : Int) = ((i : Nat) : Int)))) rfl hf.ops.h9 (by decide) (run_ieq hf.ops.h9 rfl rfl _) (fun a htm => ?_)
   refine htm.cond (b := true) (by show Value.bool (decide (((i : Nat) : Int) = ((i : Nat) : Int))) = _; rw [decide_eq_true rfl]) ?_
   simp only [if_true]
   refine wp_seq (wp_region ?_)
   rw [show List.range (#[o 10, o 11] : Array Oper).size = [0, 1] from rfl]
   refine htm.step (v := .slice ad n c) rfl hf.ops.h10 (by decide) (run_mv hf.ops.h10 _) (fun a htm => ?_)
   refine htm.step (v := .slice ad n c) rfl hf.ops.h11 (by decide) (run_asg hf.ops.h11 _) (fun a htm => ?_)
   refine wp_ret ?_
   show bodyPost P fn (fun x wq => x = .returned (.slice ad n c) ∧ wq = w) .ret a w
   refine del_ret hf.res htm (v := .slice ad n c) rfl ?_
   exact ⟨rfl, rfl⟩
  exact key _ (tm3 _ _ _ 30)
end
section
variable {P : Program} {c : Ctx} {f : Nat}
end
def deleteF : List MV → Option MV
  | [.fresh xs, .i .i64 i, .i .i64 j] => bif decide (0 ≤ i) && (decide (i ≤ j) && decide (j ≤ (xs.length : Int))) then some (.fresh (xs.take i.toNat ++ xs.drop j.toNat)) else none
  | _ => none
end Dn
/-
  Functions of the library as table entries. Conditions: none.
-/
set_option linter.unusedVariables false
namespace Dn
open Go
def cloneF (size bytes : Nat) : List MV → Option MV
  | [.list xs] => bif wids size xs && Nat.ble (xs.length * bytes) (2 ^ 46) then some (.fresh xs) else none
  | _ => none
def insertF (bytes : Nat) : List MV → Option MV
  | [.fresh xs, .i .i64 i, .fresh ys] => bif decide (0 ≤ i) && (Nat.ble i.toNat xs.length && (!ys.isEmpty && Nat.ble ((xs.length + ys.length) * bytes) (2 ^ 46))) then some (.fresh (xs.take i.toNat ++ ys ++ xs.drop i.toNat)) else none
  | _ => none
theorem cloneF_some {size bytes : Nat} {ms : List MV} {r : MV} (h : cloneF size bytes ms = some r) : ∃ xs, ms = [.list xs] ∧ r = .fresh xs ∧ wids size xs = true ∧ xs.length * bytes ≤ 2 ^ 46 := by
  unfold cloneF at h
  split at h
  · rename_i xs
    cases hb : wids size xs && Nat.ble (xs.length * bytes) (2 ^ 46) with
    | false => simp [hb] at h
    | true =>
      simp only [hb, cond_true, Option.some.injEq] at h
      simp only [Bool.and_eq_true] at hb
      exact ⟨xs, rfl, h.symm, hb.1, Nat.le_of_ble_eq_true hb.2⟩
  · cases h
theorem SoundG.none (P : Program) (c : Ctx) : SoundG P c (fun _ _ => Option.none) := ⟨fun f ms r h => by cases h⟩
theorem SoundG.add1 {P : Program} {c : Ctx} {g : Nat → List MV → Option MV} {n : Nat} {F : List MV → Option MV} (h : SoundG P c g) (hkey : ∀ f, c.key f = f) (hF : ∀ ms r, F ms = some r → Sound1 P c n ms r) : SoundG P c (addG n F g) :=
  h.add (fun f ms r hk hr => by
    rw [hkey] at hk
    rw [hk]
    exact hF ms r hr)
/-- the operations of a text, one after the other -/
def codeOps : Code → List Oper
  | .region _ ops _ => ops.toList
  | .seq x y => codeOps x ++ codeOps y
  | .cond _ x y => codeOps x ++ codeOps y
  | .block _ x => codeOps x
  | .loop x => codeOps x
  | _ => []
def opAt (fn : Func) (d : Oper) (k : Nat) : Oper := match fn.body with | some c => (codeOps c).getD k d | none => d
def insTail (o : Nat → Oper) : Code := .seq (.region 18 #[o 83, o 84, o 85, o 86, o 87] false) (.seq (.region 19 #[o 88, o 89, o 90, o 91, o 92] false) (.seq (.region 20 #[o 93, o 94] false) .ret))
def noOp : Oper := { dst := none, op := .move (.tmp 0), type := 0, pos := "", after := #[], guard := none }
end Dn
/-
  Reasoning about functions on values. Conditions: none.
-/
set_option linter.unusedVariables false
namespace Dn
open Go
section
variable {R : Type}
@[simp] theorem gB_b (x : Bool) (K : Bool → Option R) : gB (.b x) K = K x := (rfl)
@[simp] theorem gI_i (k : IntKind) (x : Int) (K : Int → Option R) : gI k (.i k x) K = K x := by simp [gI]
@[simp] theorem gS_s (x : List UInt8) (K : List UInt8 → Option R) : gS (.s x) K = K x := (rfl)
@[simp] theorem gL_l (x : List MV) (K : List MV → Option R) : gL (.list x) K = K x := (rfl)
@[simp] theorem gH_h (x : Hash) (K : Hash → Option R) : gH (.h x) K = K x := (rfl)
@[simp] theorem gA_a (x : List MV) (K : List MV → Option R) : gA (.agg x) K = K x := (rfl)
@[simp] theorem gT_t (x : List MV) (K : List MV → Option R) : gT (.tup x) K = K x := (rfl)
@[simp] theorem gF_f (x : List MV) (K : List MV → Option R) : gF (.fresh x) K = K x := (rfl)
@[simp] theorem gFn_f (f : Nat) (x : List MV) (K : Nat → List MV → Option R) : gFn (.func f x) K = K f x := (rfl)
@[simp] theorem gR_f (f : Nat) (x : List MV) (K : MV → Option R) : gR (.func f x) K = K (.func f x) := (rfl)
@[simp] theorem gC_c (m : MV) (r : List MV) (K : MV → List MV → Option R) : gC (m :: r) K = K m r := (rfl)
@[simp] theorem gN_n (K : Option R) : gN [] K = K := (rfl)
@[simp] theorem bd_s {α : Type} (a : α) (K : α → Option R) : bd (some a) K = K a := (rfl)
@[simp] theorem nbeq' (a b : Nat) : Nat.beq a b = decide (a = b) := nbeq a b
@[simp] theorem chk_true (K : Option R) : chk true K = K := (rfl)
@[simp] theorem ifB_true (x y : Option R) : ifB true x y = x := (rfl)
@[simp] theorem ifB_false (x y : Option R) : ifB false x y = y := (rfl)
theorem chk_of {c : Bool} (h : c = true) (K : Option R) : chk c K = K := by rw [h]; rfl
theorem idx_at (L : List MV) (k : Nat) (h : k < L.length) (K : MV → Option R) : idx L (k : Int) K = K L[k] := by
  simp [idx, idxO, h]
end
theorem wrap_id {x : Int} (h1 : -9223372036854775808 ≤ x) (h2 : x ≤ 9223372036854775807) : IntKind.wrap .i64 x = x := by rw [IntKind.wrap_i64]; omega
theorem mid_eq {i j : Nat} (h : i + j < 2 ^ 62) : IntKind.wrap .i64 (Int.fdiv (IntKind.wrap .u64 (IntKind.wrap .i64 ((i : Int) + (j : Int)))) (2 ^ min (Int.toNat 1) (IntKind.bits .u64))) = (((i + j) / 2 : Nat) : Int) := by
  have h1 : IntKind.wrap .i64 ((i : Int) + (j : Int)) = ((i + j : Nat) : Int) := by rw [IntKind.wrap_i64]; omega
  have h2 : IntKind.wrap .u64 ((i + j : Nat) : Int) = ((i + j : Nat) : Int) := by
    have : IntKind.wrap .u64 ((i + j : Nat) : Int) = ((i + j : Nat) : Int) % 18446744073709551616 := by simp [IntKind.wrap, IntKind.signed, IntKind.bits]
    rw [this]; omega
  have h3 : (2 : Int) ^ min (Int.toNat 1) (IntKind.bits .u64) = 2 := by decide
  rw [h1, h2, h3, Int.fdiv_eq_ediv_of_nonneg _ (by omega)]
  rw [IntKind.wrap_i64]; omega
section
variable {σ R : Type} {body : σ → Option (Sum σ R)}
theorem iter_mono {n : Nat} {s : σ} {r : R} (h : iter body n s = some r) : ∀ {m : Nat}, n ≤ m → iter body m s = some r := by
  induction n generalizing s with
  | zero => cases h
  | succ n ih =>
    intro m hm
    obtain ⟨m, rfl⟩ : ∃ k, m = k + 1 := ⟨m - 1, by omega⟩
    simp only [iter] at h ⊢
    cases hb : body s with
    | none => rw [hb] at h; cases h
    | some x =>
      rw [hb] at h
      cases x with
      | inl s' => exact ih h (by omega)
      | inr r' => exact h
theorem Loop_of_iter {n : Nat} {s : σ} {r : R} (h : iter body n s = some r) : Loop body s = some r := by
  have he : ∃ r n, iter body n s = some r := ⟨r, n, h⟩
  unfold Loop
  rw [dif_pos he]
  obtain ⟨m, hm⟩ := Classical.choose_spec he
  have h1 := iter_mono h (Nat.le_max_left n m)
  have h2 := iter_mono hm (Nat.le_max_right n m)
  rw [h1] at h2
  exact h2.symm
/-- a loop with an invariant and something that falls -/
theorem Loop_inv (I : σ → Prop) (μ : σ → Nat) (Q : R → Prop) (h : ∀ s, I s → (∃ s', body s = some (.inl s') ∧ I s' ∧ μ s' < μ s) ∨ (∃ r, body s = some (.inr r) ∧ Q r)) {s : σ} (hs : I s) : ∃ r, Loop body s = some r ∧ Q r := by
  have key : ∀ k s, I s → μ s < k → ∃ r, iter body k s = some r ∧ Q r := by
    intro k
    induction k with
    | zero => intro s _ h; omega
    | succ k ih =>
      intro s hs hk
      rcases h s hs with ⟨s', e, hi, hm⟩ | ⟨r, e, hq⟩
      · obtain ⟨r, e2, hq⟩ := ih s' hi (by omega)
        exact ⟨r, by simp only [iter, e]; exact e2, hq⟩
      · exact ⟨r, by simp only [iter, e], hq⟩
  obtain ⟨r, e, hq⟩ := key (μ s + 1) s hs (by omega)
  exact ⟨r, Loop_of_iter e, hq⟩
/-- a loop that counts up to some number: state k goes to state k + 1, or it ends -/
theorem Loop_nat (S : Nat → σ) (N : Nat) (Q : R → Prop) (P : Nat → Prop) (h0 : P 0) (h : ∀ k, k < N → P k → (body (S k) = some (.inl (S (k + 1))) ∧ P (k + 1)) ∨ (∃ r, body (S k) = some (.inr r) ∧ Q r)) (he : P N → ∃ r, body (S N) = some (.inr r) ∧ Q r) : ∃ r, Loop body (S 0) = some r ∧ Q r := by
  have key : ∀ d k, k + d = N → P k → ∃ r, iter body (d + 1) (S k) = some r ∧ Q r := by
    intro d
    induction d with
    | zero =>
      intro k hk hp
      have : k = N := by omega
      subst this
      obtain ⟨r, e, hq⟩ := he hp
      exact ⟨r, by simp only [iter, e], hq⟩
    | succ d ih =>
      intro k hk hp
      rcases h k (by omega) hp with ⟨e, hp'⟩ | ⟨r, e, hq⟩
      · obtain ⟨r, e2, hq⟩ := ih (k + 1) (by omega) hp'
        exact ⟨r, by rw [iter, e]; exact e2, hq⟩
      · exact ⟨r, by rw [iter, e], hq⟩
  obtain ⟨r, e, hq⟩ := key N 0 (by omega) h0
  exact ⟨r, Loop_of_iter e, hq⟩
end
end Dn
/-
  From functions on plain values to functions on typed values. Conditions: none.
-/
set_option linter.unusedVariables false
namespace Dn
open Go
/-- a list's length, once -/
def lenN {R : Type} (l : List MV) (K : Nat → Option R) : Option R := K l.length
/-- element i of a list -/
def ix {α R : Type} (l : List α) (i : Int) (K : α → Option R) : Option R :=
  match (if 0 ≤ i then l[i.toNat]? else none) with | some x => K x | none => none
def tClone {α : Type} (bytes : Nat) (l : List α) : Option (List α) := if l.length * bytes ≤ 2 ^ 46 then some l else none
def tDelete {α : Type} (xs : List α) (i j : Int) : Option (List α) := if 0 ≤ i ∧ i ≤ j ∧ j ≤ (xs.length : Int) then some (xs.take i.toNat ++ xs.drop j.toNat) else none
def tInsert {α : Type} (bytes : Nat) (xs : List α) (i : Int) (ys : List α) : Option (List α) :=
  if 0 ≤ i ∧ i.toNat ≤ xs.length ∧ ys ≠ [] ∧ (xs.length + ys.length) * bytes ≤ 2 ^ 46 then some (xs.take i.toNat ++ ys ++ xs.drop i.toNat) else none
@[reducible] def encL {α : Type} (f : α → MV) (l : List α) : MV := .list (l.map f)
@[reducible] def encF {α : Type} (f : α → MV) (l : List α) : MV := .fresh (l.map f)

/-- the one gives just what the other gives, as a plain value -/
def Sm {A B : Type} (g : B → A) (x : Option A) (y : Option B) : Prop := x = y.map g
section
variable {A B A' B' α : Type} {g : B → A} {T : Option B}
theorem Sm.at {x x' : Option A} (e : x = x') (h : Sm g x' T) : Sm g x T := e ▸ h
theorem st_gA {l : List MV} {K : List MV → Option A} (h : Sm g (K l) T) : Sm g (gA (.agg l) K) T := h
theorem st_gB {x : Bool} {K : Bool → Option A} (h : Sm g (K x) T) : Sm g (gB (.b x) K) T := h
theorem st_gS {x : List UInt8} {K : List UInt8 → Option A} (h : Sm g (K x) T) : Sm g (gS (.s x) K) T := h
theorem st_gL {x : List MV} {K : List MV → Option A} (h : Sm g (K x) T) : Sm g (gL (.list x) K) T := h
theorem st_gT {x : List MV} {K : List MV → Option A} (h : Sm g (K x) T) : Sm g (gT (.tup x) K) T := h
theorem st_gF {x : List MV} {K : List MV → Option A} (h : Sm g (K x) T) : Sm g (gF (.fresh x) K) T := h
theorem st_gP {x : List MV} {K : List MV → Option A} (h : Sm g (K x) T) : Sm g (gP (.rp x) K) T := h
theorem st_gFn {f : Nat} {x : List MV} {K : Nat → List MV → Option A} (h : Sm g (K f x) T) : Sm g (gFn (.func f x) K) T := h
theorem st_gRf {f : Nat} {x : List MV} {K : MV → Option A} (h : Sm g (K (.func f x)) T) : Sm g (gR (.func f x) K) T := h
theorem st_gI {k : IntKind} {n : Int} {K : Int → Option A} (h : Sm g (K n) T) : Sm g (gI k (.i k n) K) T := by simpa using h
theorem st_gC {m : MV} {r : List MV} {K : MV → List MV → Option A} (h : Sm g (K m r) T) : Sm g (gC (m :: r) K) T := h
theorem st_gN {K : Option A} (h : Sm g K T) : Sm g (gN [] K) T := h
theorem st_bd {x : Option A'} {y : Option B'} {f : B' → A'} {K : A' → Option A} {K' : B' → Option B} (h : Sm f x y) (hk : ∀ b, Sm g (K (f b)) (K' b)) : Sm g (bd x K) (bd y K') := by
  unfold Sm at h; subst h
  cases y with
  | none => rfl
  | some b => exact hk b
theorem st_if {p : Prop} [Decidable p] {X Y : Option A} {X' Y' : Option B} (h1 : Sm g X X') (h2 : Sm g Y Y') : Sm g (ifB (decide p) X Y) (if p then X' else Y') := by
  by_cases h : p <;> simpa [h] using (by assumption)
theorem st_ifb {c : Bool} {X Y : Option A} {X' Y' : Option B} (h1 : Sm g X X') (h2 : Sm g Y Y') : Sm g (ifB c X Y) (if c then X' else Y') := by
  cases c <;> simpa using (by assumption)
theorem st_chk {p : Prop} [Decidable p] {X : Option A} {X' : Option B} (h1 : Sm g X X') : Sm g (chk (decide p) X) (if p then X' else none) := by
  by_cases h : p
  · simpa [h] using h1
  · simp [h, chk, Sm]
theorem st_chkb {c : Bool} {X : Option A} {X' : Option B} (h1 : Sm g X X') : Sm g (chk c X) (if c then X' else none) := by
  cases c
  · simp [chk, Sm]
  · simpa using h1
theorem st_tt {c : Bool} {X : Option A} (hc : c = true) (h : Sm g X T) : Sm g (chk c X) T := by subst hc; exact h
theorem st_ifT {c : Bool} {X Y : Option A} (hc : c = true) (h : Sm g X T) : Sm g (ifB c X Y) T := by subst hc; exact h
theorem st_ifF {c : Bool} {X Y : Option A} (hc : c = false) (h : Sm g Y T) : Sm g (ifB c X Y) T := by subst hc; exact h
theorem st_len {l : List MV} {n : Nat} {K : Nat → Option A} (e : l.length = n) (h : Sm g (K n) T) : Sm g (lenN l K) T := by subst e; exact h
theorem st_idx {l : List MV} {M : List α} {f : α → MV} {i : Int} {K : MV → Option A} {K' : α → Option B} (e : l = M.map f) (h : ∀ y, Sm g (K (f y)) (K' y)) : Sm g (idx l i K) (ix M i K') := by
  subst e
  unfold idx idxO ix
  by_cases hi : 0 ≤ i
  · simp only [hi, if_true, List.getElem?_map]
    cases M[i.toNat]? with
    | none => rfl
    | some y => exact h y
  · simp only [hi, if_false]; rfl
theorem st_both {X : Option A} {T : Option B} (h : Sm g X T) : Sm g (both X X) T := by
  have e : both X X = X := by unfold both; rw [if_pos rfl]
  rw [e]; exact h
def bysT {R : Type} (l : List Int) (K : List UInt8 → Option R) : Option R := if l.all isByte then K (l.map fun n => UInt8.ofNat n.toNat) else none
theorem bysK_map {R : Type} {M : List Int} : ∀ {K : List UInt8 → Option R}, bysK (M.map (MV.i .u8)) K = bysT M K := by
  induction M with
  | nil => intro K; rfl
  | cons n M ih =>
    intro K
    simp only [List.map_cons, bysK, byK, gI, decide_true, cond_true, ih]
    cases h : isByte n <;> simp [chk, bysT, h]
theorem st_bys {l : List MV} {M : List Int} {K : List UInt8 → Option A} {K' : List UInt8 → Option B} (e : l = M.map (MV.i .u8)) (h : ∀ b, Sm g (K b) (K' b)) : Sm g (bysK l K) (bysT M K') := by
  subst e
  rw [bysK_map]
  unfold bysT
  split
  · exact h _
  · rfl
theorem st_some {d : A} {a : B} (e : d = g a) : Sm g (some d) (some a) := by subst e; rfl
theorem st_none : Sm g none none := rfl
theorem wids_of {n : Nat} {l : List MV} {M : List α} {f : α → MV} (e : l = M.map f) (h : ∀ x, (f x).w = n) : wids n l = true := by
  subst e
  unfold wids
  rw [List.all_map, List.all_eq_true]
  intro x _
  simp [h x]
theorem iter_map {σ σ' ρ ρ' : Type} {e : σ' → σ} {f : ρ' → ρ} {K : σ → Option (Sum σ ρ)} {K' : σ' → Option (Sum σ' ρ')} (h : ∀ s, Sm (Sum.map e f) (K (e s)) (K' s)) (n : Nat) (s : σ') : iter K n (e s) = (iter K' n s).map f := by
  induction n generalizing s with
  | zero => rfl
  | succ n ih =>
    have := h s
    unfold Sm at this
    simp only [iter, this]
    cases K' s with
    | none => rfl
    | some x => cases x with
      | inl s' => exact ih s'
      | inr r => rfl
theorem Loop_none {σ ρ : Type} {K : σ → Option (Sum σ ρ)} {s : σ} (h : ∀ n, iter K n s = none) : Loop K s = none := by
  unfold Loop
  rw [dif_neg]
  rintro ⟨r, n, e⟩
  rw [h] at e; cases e
theorem st_loop {σ σ' ρ ρ' : Type} {K : σ → Option (Sum σ ρ)} {K' : σ' → Option (Sum σ' ρ')} {d0 : σ} {s0 : σ'} (e : σ' → σ) (f : ρ' → ρ) (e0 : d0 = e s0) (h : ∀ s, Sm (Sum.map e f) (K (e s)) (K' s)) : Sm f (Loop K d0) (Loop K' s0) := by
  subst e0
  unfold Sm
  by_cases hx : ∃ r n, iter K' n s0 = some r
  · obtain ⟨r, n, hn⟩ := hx
    rw [Loop_of_iter hn]
    have : iter K n (e s0) = some (f r) := by rw [iter_map h, hn]; rfl
    rw [Loop_of_iter this]; rfl
  · have h1 : ∀ n, iter K' n s0 = none := fun n => by
      cases hn : iter K' n s0 with
      | none => rfl
      | some r => exact absurd ⟨r, n, hn⟩ hx
    rw [Loop_none h1, Loop_none fun n => by rw [iter_map h, h1]; rfl]; rfl
theorem e_clone {size bytes : Nat} {f : α → MV} (hw : ∀ x, (f x).w = size) (l : List α) : Sm (encF f) (cloneF size bytes [.list (l.map f)]) (tClone bytes l) := by
  unfold Sm cloneF tClone
  simp only [wids_of (rfl : l.map f = l.map f) hw, Bool.true_and, List.length_map]
  by_cases h : l.length * bytes ≤ 2 ^ 46
  · rw [show Nat.ble (l.length * bytes) (2 ^ 46) = true from Nat.ble_eq_true_of_le h, if_pos h]; rfl
  · rw [show Nat.ble (l.length * bytes) (2 ^ 46) = false from by rw [Bool.eq_false_iff]; intro hb; exact h (Nat.le_of_ble_eq_true hb), if_neg h]; rfl
theorem e_insert {bytes : Nat} {f : α → MV} (xs : List α) (i : Int) (ys : List α) : Sm (encF f) (insertF bytes [.fresh (xs.map f), .i .i64 i, .fresh (ys.map f)]) (tInsert bytes xs i ys) := by
  unfold Sm insertF tInsert
  simp only [List.length_map]
  have hb : ∀ a b : Nat, Nat.ble a b = decide (a ≤ b) := fun a b => by
    by_cases h : a ≤ b
    · rw [Nat.ble_eq_true_of_le h, decide_eq_true h]
    · rw [decide_eq_false h, Bool.eq_false_iff]; intro hh; exact h (Nat.le_of_ble_eq_true hh)
  rw [hb, hb]
  have he : (ys.map f).isEmpty = decide (ys = []) := by cases ys <;> simp
  rw [he]
  by_cases h1 : 0 ≤ i <;> by_cases h2 : i.toNat ≤ xs.length <;> by_cases h3 : ys = [] <;> by_cases h4 : (xs.length + ys.length) * bytes ≤ 2 ^ 46 <;> simp [h1, h2, h3, h4, encF]
end
/-- lists of arguments -/
abbrev lst0 (f : Option MV) : List MV → Option MV | [] => f | _ => none
abbrev lst1 (f : MV → Option MV) : List MV → Option MV | [a] => f a | _ => none
abbrev lst2 (f : MV → MV → Option MV) : List MV → Option MV | [a, b] => f a b | _ => none
abbrev lst3 (f : MV → MV → MV → Option MV) : List MV → Option MV | [a, b, c] => f a b c | _ => none
abbrev lst4 (f : MV → MV → MV → MV → Option MV) : List MV → Option MV | [a, b, c, d] => f a b c d | _ => none
abbrev lst5 (f : MV → MV → MV → MV → MV → Option MV) : List MV → Option MV | [a, b, c, d, e] => f a b c d e | _ => none
abbrev lst6 (f : MV → MV → MV → MV → MV → MV → Option MV) : List MV → Option MV | [a, b, c, d, e, h] => f a b c d e h | _ => none
abbrev lst7 (f : MV → MV → MV → MV → MV → MV → MV → Option MV) : List MV → Option MV | [a, b, c, d, e, h, i] => f a b c d e h i | _ => none
theorem lst0_of {f : Option MV} {B : List MV → Option MV} (h : B [] = f) {ms : List MV} {r : MV} (e : lst0 f ms = some r) : B ms = some r := by
  unfold lst0 at e; split at e
  · rw [h]; exact e
  · cases e
theorem lst1_of {f : MV → Option MV} {B : List MV → Option MV} (h : ∀ a, B [a] = f a) {ms : List MV} {r : MV} (e : lst1 f ms = some r) : B ms = some r := by
  unfold lst1 at e; split at e
  · rw [h]; exact e
  · cases e
theorem lst2_of {f : MV → MV → Option MV} {B : List MV → Option MV} (h : ∀ a b, B [a, b] = f a b) {ms : List MV} {r : MV} (e : lst2 f ms = some r) : B ms = some r := by
  unfold lst2 at e; split at e
  · rw [h]; exact e
  · cases e
theorem lst3_of {f : MV → MV → MV → Option MV} {B : List MV → Option MV} (h : ∀ a b c, B [a, b, c] = f a b c) {ms : List MV} {r : MV} (e : lst3 f ms = some r) : B ms = some r := by
  unfold lst3 at e; split at e
  · rw [h]; exact e
  · cases e
/-- a function of the program's, as a function of its arguments -/
theorem SoundG.fn {P : Program} {c c' : Ctx} {g : Nat → List MV → Option MV} {n : Nat} {fn : Func} {caps : List (List Kd)} {F : List MV → Option MV} (h : SoundG P c g) (hl : Like c c') (hgg : c'.g = g) (hti : TIok P c.ti) (heq : EqOK P c.ti) (hfk : ∀ t k, c.fk t = some k → P.underlying t = some (.float k)) (hmt : MapTys P c) (hmix : P.follows .mixedOrders = true) (hdel : DelsOK P c)
    (hf : P.funcs[n]? = some fn) (hh : headB c' n fn caps = true) (hkey : ∀ f, c.key f = f) (hF : ∀ {ms r}, F ms = some r → bodyK c' caps Option.none fn ms = some r) : SoundG P c (addG n F g) := by
  have hb := SoundG.body h hl hgg hti heq hfk hmt hmix hdel hf hh hkey
  refine h.add (fun f ms r hk hr => ?_)
  refine hb.all f ms r ?_
  unfold addG
  rw [hk]
  simp [hF hr]
/-! ### slices.DeleteFunc -/
def tDelP {α : Type} (p : α → Option Bool) : List α → Option (List α)
  | [] => some []
  | x :: xs => bd (p x) fun b => bd (tDelP p xs) fun ys => some (if b then ys else x :: ys)
def tDelC {α σ : Type} (p : α → σ → Option (Bool × σ)) : σ → List α → Option (List α × σ)
  | s, [] => some ([], s)
  | s, x :: xs => bd (p x s) fun q => bd (tDelC p q.2 xs) fun r => some (if q.1 then r.1 else x :: r.1, r.2)
theorem aggs_map {l : List MV} {α : Type} {M : List α} {f : α → MV} (e : l = M.map f) (h : ∀ x, aggB (f x) = true) : l.all aggB = true := by
  subst e
  rw [List.all_map, List.all_eq_true]
  intro x _
  exact h x
theorem e_delP {α : Type} {f : α → MV} {g : Nat → List MV → Option MV} {k : Nat} {caps : List MV} {p : α → Option Bool} (h : ∀ x, Sm MV.b (g k (f x :: caps)) (p x)) : ∀ L : List α, Sm (fun ys => (ys.map f, ())) (delF (stepP g k caps) () (L.map f)) (tDelP p L)
  | [] => rfl
  | x :: xs => by
    have ih := e_delP h xs
    have hx := h x
    unfold Sm at ih hx ⊢
    simp only [List.map_cons, delF, stepP, tDelP, hx]
    cases p x with
    | none => rfl
    | some b =>
      simp only [Option.map_some, ih]
      cases tDelP p xs with
      | none => rfl
      | some ys => cases b <;> rfl
theorem e_delC {α σ : Type} {f : α → MV} {lv : σ → List MV} {g : Nat → List MV → Option MV} {k : Nat} {caps : List MV} {p : α → σ → Option (Bool × σ)} (h : ∀ x s, Sm (fun r => MV.wback (.b r.1) (lv r.2)) (g k (f x :: (caps ++ [.cell (.func 0 (lv s))]))) (p x s)) : ∀ (s : σ) (L : List α), Sm (fun r => (r.1.map f, lv r.2)) (delF (stepC g k caps) (lv s) (L.map f)) (tDelC p s L)
  | s, [] => rfl
  | s, x :: xs => by
    have hx := h x s
    unfold Sm at hx ⊢
    simp only [List.map_cons, delF, stepC, tDelC, hx]
    cases p x s with
    | none => rfl
    | some q =>
      have ih := e_delC h q.2 xs
      unfold Sm at ih
      simp only [Option.map_some, ih]
      show _ = Option.map _ (bd (tDelC p q.2 xs) fun r => _)
      cases tDelC p q.2 xs with
      | none => rfl
      | some r => obtain ⟨b, s'⟩ := q; cases b <;> rfl
end Dn
/-
  What functions of package strings yield: plain and typed. Conditions: none.
-/
set_option linter.unusedSimpArgs false
set_option linter.unusedVariables false
namespace Dn
open Go

/-- what a text is between bytes -/
def splitL (c : UInt8) : List UInt8 → List (List UInt8)
  | [] => [[]]
  | x :: l => if x = c then [] :: splitL c l else match splitL c l with
    | p :: r => (x :: p) :: r
    | [] => [[x]]
def trimF : List MV → Option MV
  | [.s a, .s b] => bif (Nat.ble 1 a.length && Nat.ble a.length (2 ^ 46)) && (Nat.ble 2 b.length && (Nat.ble b.length 1000 && b.all fun x => decide (x.toNat < 128))) then some (.s (Lib.trimS a b)) else none
  | _ => none
def hasRuneF : List MV → Option MV
  | [.s a, .i .i32 r] => bif decide (0 ≤ r ∧ r < 128) then some (.b (decide (0 ≤ Lib.indexByte a r.toNat.toUInt8))) else none
  | _ => none
def splitF : List MV → Option MV
  | [.s a, .s [c]] => bif Nat.ble a.length 4294967280 then some (.fresh ((splitL c a).map MV.s)) else none
  | _ => none


def tTrim (a b : List UInt8) : Option (List UInt8) := bif (Nat.ble 1 a.length && Nat.ble a.length (2 ^ 46)) && (Nat.ble 2 b.length && (Nat.ble b.length 1000 && b.all fun x => decide (x.toNat < 128))) then some (Lib.trimS a b) else none
def tHasRune (a : List UInt8) (r : Int) : Option Bool := bif decide (0 ≤ r ∧ r < 128) then some (decide (0 ≤ Lib.indexByte a r.toNat.toUInt8)) else none
def tSplit (a s : List UInt8) : Option (List (List UInt8)) := match s with
  | [c] => bif Nat.ble a.length 4294967280 then some (splitL c a) else none
  | _ => none
theorem e_trim (a b : List UInt8) : Sm MV.s (trimF [.s a, .s b]) (tTrim a b) := by
  unfold Sm trimF tTrim
  dsimp only
  cases (Nat.ble 1 a.length && Nat.ble a.length (2 ^ 46)) && (Nat.ble 2 b.length && (Nat.ble b.length 1000 && b.all fun x => decide (x.toNat < 128))) <;> rfl
theorem e_hasRune (a : List UInt8) (r : Int) : Sm MV.b (hasRuneF [.s a, .i .i32 r]) (tHasRune a r) := by
  unfold Sm hasRuneF tHasRune
  dsimp only
  cases decide (0 ≤ r ∧ r < 128) <;> rfl
theorem e_split (a s : List UInt8) : Sm (encF MV.s) (splitF [.s a, .s s]) (tSplit a s) := by
  unfold Sm tSplit
  split
  · rename_i c
    unfold splitF
    dsimp only
    cases Nat.ble a.length 4294967280 <;> rfl
  · rename_i h
    unfold splitF
    split
    · rename_i h2
      simp only [List.cons.injEq, MV.s.injEq, and_true] at h2
      exact absurd h2.2 (h _)
    · rfl
end Dn
/-
  Functions of package strings as table entries, by the shelf's contracts. Conditions: none.
-/
set_option linter.unusedSimpArgs false
set_option linter.unusedVariables false
namespace Dn
open Go

theorem splitK_eq (c : UInt8) : ∀ l : List UInt8, Lib.splitK [c] 0 (Lib.count l [c]) l = splitL c l := by
  intro l
  induction l with
  | nil => rw [Lib.count_one]; rfl
  | cons b l ih =>
    by_cases hb : b = c
    · subst hb
      have hix : Lib.index (b :: l) [b] = 0 := by rw [Lib.index]; simp [List.isPrefixOf]
      rw [Lib.count_cons_eq, Nat.add_comm, Lib.splitK, hix]
      simp [splitL, ih]
    · rw [Lib.count_cons_ne b c l hb]
      have hp : ([c] : List UInt8).isPrefixOf (b :: l) = false := by simp [List.isPrefixOf, Ne.symm hb]
      have hix : Lib.index (b :: l) [c] = if Lib.index l [c] == -1 then -1 else Lib.index l [c] + 1 := by rw [Lib.index, hp]; simp
      simp only [splitL, hb, if_false]
      rw [← ih]
      cases hk : Lib.count l [c] with
      | zero => rfl
      | succ k =>
        have hne : Lib.index l [c] ≠ -1 := by intro he; rw [Lib.count_miss he] at hk; cases hk
        have hge := Lib.index_ge l [c]
        obtain ⟨j, hj⟩ : ∃ j : Nat, Lib.index l [c] = j := ⟨(Lib.index l [c]).toNat, by omega⟩
        have hne' : (Lib.index l [c] == -1) = false := by simpa using hne
        rw [hne', if_neg (by decide)] at hix
        have hne2 : (Lib.index (b :: l) [c] == -1) = false := by rw [hix, hj]; simp; omega
        rw [Lib.splitK, Lib.splitK, hne', hne2, hix, hj]
        have e1 : ((j : Int) + 1).toNat = j + 1 := by omega
        simp [e1]
theorem splitB_eq (c : UInt8) (s : ByteArray) : (Lib.splitB ⟨#[c]⟩ 0 (Lib.countB s ⟨#[c]⟩) s).map (·.data.toList) = splitL c s.data.toList := by
  rw [Lib.splitB_data]
  exact splitK_eq c _

section
variable {P : Program} {ρ : Go.Shelf.Ren} {c : Ctx}

theorem callOK_of {f : FuncId} {args : Array Value} {w : World} {S : Ending → World → Prop} {R : Value → World → Prop} (he : ∀ args w, (callFunc f args).run P w = .ok (.enter f args) w) (hc : Calls P f args w S) (h : ∀ e w', S e w' → ∃ v, e = .returned v ∧ R v w') :
    CallOK P f args w R := by
  unfold CallOK
  rw [he]
  exact hc.mono h
theorem rep_str {key : Nat → Nat} {φ : Ph} {v : Value} {l : List UInt8} (h : Rep key φ [v] (.s l)) : ∃ b : ByteArray, v = .string b ∧ b.data.toList = l := by
  generalize hv : [v] = vs at h
  cases h
  rename_i b
  exact ⟨b, by simpa using hv, rfl⟩
theorem args_ss {Z : Nat → Prop} {φ : Ph} {w : World} {k : Nat} {vs : List Value} {a b : List UInt8} (hg : c.gives k = false) (h : ArgsIn c Z φ w k vs [.s a, .s b]) : ∃ x y : ByteArray, vs = [.string x, .string y] ∧ x.data.toList = a ∧ y.data.toList = b := by
  simp only [ArgsIn, hg, Bool.false_eq_true, if_false] at h
  obtain ⟨v, u, rfl, ⟨_, h1⟩, v2, u2, rfl, ⟨_, h2⟩, rfl⟩ := h
  obtain ⟨x, rfl, hx⟩ := rep_str h1
  obtain ⟨y, rfl, hy⟩ := rep_str h2
  exact ⟨x, y, rfl, hx, hy⟩
theorem args_si {Z : Nat → Prop} {φ : Ph} {w : World} {k : Nat} {kd : IntKind} {vs : List Value} {a : List UInt8} {n : Int} (hg : c.gives k = false) (h : ArgsIn c Z φ w k vs [.s a, .i kd n]) : ∃ x : ByteArray, vs = [.string x, .int kd n] ∧ x.data.toList = a := by
  simp only [ArgsIn, hg, Bool.false_eq_true, if_false] at h
  obtain ⟨v, u, rfl, ⟨_, h1⟩, v2, u2, rfl, ⟨_, h2⟩, rfl⟩ := h
  obtain ⟨x, rfl, hx⟩ := rep_str h1
  generalize hv : [v2] = vs at h2
  cases h2
  simp at hv
  subst hv
  exact ⟨x, rfl, hx⟩
theorem rest_drew (w : World) (q : Nat) : Rest w (w.drewN q) := ⟨rfl, rfl, rfl, fun _ => rfl⟩

theorem new_none {φ : Ph} {w : World} (hi : Imm φ w) {b : Nat} (hb : w.heap.size ≤ b) (off : Nat) : φ b off = none := by
  cases hp : φ b off with
  | none => rfl
  | some u =>
    have := World.block_lt_of_cell? w _ (hi _ _ _ hp)
    simp at this
    omega
theorem trim_ok (L : Go.Proofs.Lays.n160 P ρ) (h116 : (P.info? (ρ.t 116)).map (fun i => (i.zero, i.size)) = some (some (.agg (Array.replicate 256 (.bool false))), 256)) (hg : c.gives (c.key (ρ.f 160)) = false) {ms : List MV} {r : MV} (h : trimF ms = some r) :
    Sound1 P c (ρ.f 160) ms r := by
  unfold trimF at h
  split at h
  · rename_i a b
    cases hb : (Nat.ble 1 a.length && Nat.ble a.length (2 ^ 46)) && (Nat.ble 2 b.length && (Nat.ble b.length 1000 && b.all fun x => decide (x.toNat < 128))) with
    | false => rw [hb] at h; cases h
    | true =>
      rw [hb] at h
      simp only [cond_true, Option.some.injEq] at h
      subst h
      simp only [Bool.and_eq_true] at hb
      obtain ⟨⟨h1, h2⟩, h3, h4, h5⟩ := hb
      have h1 := Nat.le_of_ble_eq_true h1
      have h2 := Nat.le_of_ble_eq_true h2
      have h3 := Nat.le_of_ble_eq_true h3
      have h4 := Nat.le_of_ble_eq_true h4
      intro φ w Z vs hz ha hi
      obtain ⟨x, y, rfl, rfl, rfl⟩ := args_ss hg ha
      refine callOK_of (Go.Proofs.enters_of L.f160 (by kernel_rfl) rfl) (Go.Proofs.Any.strings_Trim_set L (Go.zero_of_info h116).1 (Go.zero_of_info h116).2 x y w (by rw [Lib.size_eq]; exact h3) (by rw [Lib.size_eq]; omega) (by rw [Lib.size_eq]; omega) (by rw [Lib.size_eq]; omega) (Go.Proofs.ascii_of_all h5)) ?_
      rintro e w' ⟨rfl, q, rfl⟩
      refine ⟨_, rfl, φ, ?_, ?_, ?_⟩
      · have g1 := Grow.alloc w (Lib.setCells y.data.toList) (ρ.t 116)
        have g2 := Grow.alloc (w.alloc (.cells (Lib.setCells y.data.toList) (ρ.t 116))) (Lib.setCells y.data.toList) (ρ.t 116)
        have g := g1.trans' g2
        exact ⟨.refl φ, fun b _ hl => g.old b hl, fun _ _ _ => rfl, g.size, g.rest.trans (rest_drew _ q)⟩
      · intro b o v hv
        have g1 := Grow.alloc w (Lib.setCells y.data.toList) (ρ.t 116)
        have g2 := Grow.alloc (w.alloc (.cells (Lib.setCells y.data.toList) (ρ.t 116))) (Lib.setCells y.data.toList) (ρ.t 116)
        exact (g1.trans' g2).cell (hi b o v hv)
      · exact ⟨rfl, by have := Rep.s (key := c.key) (φ := φ) (⟨(Lib.trimS x.data.toList y.data.toList).toArray⟩ : ByteArray); simpa using this⟩
  · cases h
theorem hasRune_ok (L : Go.Proofs.Lays.n151 P ρ) (hg : c.gives (c.key (ρ.f 151)) = false) {ms : List MV} {r : MV} (h : hasRuneF ms = some r) : Sound1 P c (ρ.f 151) ms r := by
  unfold hasRuneF at h
  split at h
  · rename_i a n
    cases hb : decide (0 ≤ n ∧ n < 128) with
    | false => rw [hb] at h; cases h
    | true =>
      rw [hb] at h
      simp only [cond_true, Option.some.injEq] at h
      subst h
      obtain ⟨h1, h2⟩ := of_decide_eq_true hb
      intro φ w Z vs hz ha hi
      obtain ⟨x, rfl, rfl⟩ := args_si hg ha
      refine callOK_of (Go.Proofs.enters_of L.f151 (by kernel_rfl) rfl) (Go.Proofs.Any.strings_ContainsRune_ascii L x n w h1 h2) ?_
      rintro e w' ⟨rfl, rfl⟩
      exact ⟨_, rfl, φ, .refl _ _ _, hi, rfl, .b _⟩
  · cases h

open Go.Proofs Go.Shelf Go.RowKit in
theorem split_one (L : Go.Proofs.Lays.n146 P ρ) (hi9 : (P.info? (ρ.t 9)).map (fun i => (i.zero, i.size, i.bytes)) = some (some (.string ByteArray.empty), 1, 16)) (s : ByteArray) (b : UInt8) (w : World) (hs : s.size < 4294967281) :
    Calls P (ρ.f 146) #[.string s, .string ⟨#[b]⟩] w fun e w' =>
      e = .returned (.slice (some ⟨w.heap.size, 0, none⟩) (Lib.countB s ⟨#[b]⟩ + 1) (Lib.countB s ⟨#[b]⟩ + 1)) ∧ w' = w.alloc (.cells ((Lib.splitB ⟨#[b]⟩ 0 (Lib.countB s ⟨#[b]⟩) s).map Value.string).toArray (ρ.t 9)) := by
  have h1 : 1 ≤ (⟨#[b]⟩ : ByteArray).size := Nat.le_refl _
  have hle := Lib.countB_le ⟨#[b]⟩ h1 s.size s (Nat.le_refl _)
  have hlen := Lib.splitB_all ⟨#[b]⟩ h1 0 _ s rfl
  have hC : Calls P (ρ.f 138) #[.string s, .string ⟨#[b]⟩] w fun e w' => e = .returned (.int .i64 (Lib.countB s ⟨#[b]⟩)) ∧ w' = w := by
    refine (Any.strings_Count_one { L with } s b w).mono fun e w' ⟨he, hw⟩ => ⟨?_, hw⟩
    rw [he]
    show _ = Ending.returned (Value.int .i64 ((Lib.count s.data.toList [b] : Nat) : Int))
    rw [Lib.count_one]
    rfl
  have c := Any.strings_genSplit_core { L with } hi9 s ⟨#[b]⟩ 0 (-1) (Lib.countB s ⟨#[b]⟩ + 1) w hs h1 (Nat.zero_le _)
    (fun x q hx => (Any.strings_Index_one { L with } x b _).mono fun e w' ⟨he, hw⟩ => ⟨by rw [he]; show _ = Ending.returned (Value.int .i64 (Lib.index x.data.toList [b])); rw [Lib.index_one], hw⟩)
    hC (by decide) (by decide) (by rw [if_pos (by decide)]; omega)
  rw [Nat.add_sub_cancel, hlen] at c
  have e2 : Lib.cellsOf (Lib.splitB ⟨#[b]⟩ 0 (Lib.countB s ⟨#[b]⟩) s) (Lib.countB s ⟨#[b]⟩ + 1) = ((Lib.splitB ⟨#[b]⟩ 0 (Lib.countB s ⟨#[b]⟩) s).map Value.string).toArray := by rw [← hlen]; exact Lib.cellsOf_full _
  rw [e2] at c
  clear hC hlen hle e2
  have t3 := L.t3; have t9 := L.t9; have t31 := L.t31
  have a3 := L.a3; have a9 := L.a9; have a31 := L.a31
  have z3 := L.z3; have v3 := L.v3; have z9 := L.z9; have v9 := L.v9; have z31 := L.z31; have v31 := L.v31
  have e221 : ∀ args w, (callFunc (ρ.f 221) args).run P w = .ok (.enter (ρ.f 221) args) w := enters_of L.f221 (by kernel_rfl) rfl
  go_enter L.f146, Body.n146_ntmps ρ
  go_wp2_with (go_at_fn (ρ.f 221); refine c.mono ?_; rintro e w' ⟨rfl, hw⟩; rw [hw])
  go_ret
  exact ⟨rfl, rfl⟩
theorem strs_elems {key : Nat → Nat} {φ : Ph} : ∀ l : List ByteArray, ElemsRep key φ 1 (l.map Value.string) (l.map fun b => MV.s b.data.toList)
  | [] => rfl
  | b :: l => ⟨[.string b], _, rfl, rfl, .s b, strs_elems l⟩
theorem split_ok {I : TI} (L : Go.Proofs.Lays.n146 P ρ) (hi9 : (P.info? (ρ.t 9)).map (fun i => (i.zero, i.size, i.bytes)) = some (some (.string ByteArray.empty), 1, 16)) (hg : c.gives (c.key (ρ.f 146)) = false)
    (hty : c.fty (c.key (ρ.f 146)) = ρ.t 9) (hI : c.tv (ρ.t 9) = some I) (hI1 : I.size = 1) {ms : List MV} {r : MV} (h : splitF ms = some r) : Sound1 P c (ρ.f 146) ms r := by
  unfold splitF at h
  split at h
  · rename_i a b
    cases hb : Nat.ble a.length 4294967280 with
    | false => rw [hb] at h; cases h
    | true =>
      rw [hb] at h
      simp only [cond_true, Option.some.injEq] at h
      subst h
      have hb := Nat.le_of_ble_eq_true hb
      intro φ w Z vs hz ha hi
      obtain ⟨x, y, rfl, rfl, hy⟩ := args_ss hg ha
      have hy' : y = ⟨#[b]⟩ := by
        cases y with
        | mk d => congr 1; apply Array.toList_inj.1; exact hy
      subst hy'
      have hs : x.size < 4294967281 := by rw [Lib.size_eq]; omega
      refine callOK_of (Go.Proofs.enters_of L.f146 (by kernel_rfl) rfl) (split_one L hi9 x b w hs) ?_
      rintro e w' ⟨rfl, rfl⟩
      have h1 : 1 ≤ (⟨#[b]⟩ : ByteArray).size := Nat.le_refl _
      have hle := Lib.countB_le ⟨#[b]⟩ h1 x.size x (Nat.le_refl _)
      have hlen := Lib.splitB_all ⟨#[b]⟩ h1 0 _ x rfl
      have heq := splitB_eq b x
      have g1 := Grow.alloc w ((Lib.splitB ⟨#[b]⟩ 0 (Lib.countB x ⟨#[b]⟩) x).map Value.string).toArray (ρ.t 9)
      obtain ⟨hti, hc⟩ := tv_some hI
      refine ⟨_, rfl, φ, g1.trans (Z := Zone.plain Z) hz φ, fun b' o v hv => g1.cell (hi b' o v hv), ?_⟩
      show FamOK _ _ _ _ _ ⟨c.fty (c.key (ρ.f 146)), false, _⟩
      rw [hty]
      generalize hpc : Lib.splitB ⟨#[b]⟩ 0 (Lib.countB x ⟨#[b]⟩) x = pcs at *
      rw [← heq, List.map_map]
      refine ⟨I, pcs.map Value.string, hti, hc, ?_, by rw [hI1]; exact strs_elems pcs, ?_⟩
      · rw [hI1]
        refine ⟨by simp, .inr ⟨w.heap.size, Lib.countB x ⟨#[b]⟩ + 1, _, by simp [hlen], Nat.zero_le _, heap_alloc_new w _, by simp [hlen], by unfold Go.maxLen; rw [Lib.size_eq] at hle; omega, by simp [hlen], ?_⟩⟩
        simp [List.take_of_length_le]
      · intro blk hblk
        simp [Value.ownBlock] at hblk
        subst hblk
        exact ⟨hz _ (Nat.le_refl _), fun off u hu => (by have hu : φ w.heap.size off = some u := hu; rw [new_none hi (Nat.le_refl _)] at hu; cases hu), fun hc => False.elim hc⟩
  · cases h
end
end Dn
/-
  slices.IndexFunc and slices.DeleteFunc of the library, walked, with whatever function. Conditions: none.
-/
set_option linter.unusedSimpArgs false
set_option linter.unusedVariables false
namespace Dn
open Go
section
variable {P : Program} {Q : Exit → Act → World → Prop} {ops : Array Oper} {o : Oper} {a : Act} {w w' : World} {n : Nat} {σ : Nat → Value}
theorem tm2 (v0 v1 : Value) (k : Nat) : Tm { tmps := #[v0, v1] ++ Array.replicate k undef, defers := [] } (k + 2) (upd (upd (fun _ => undef) 0 v0) 1 v1) := by
  refine ⟨rfl, by simp [Nat.add_comm], fun q => ?_⟩
  by_cases h0 : q = 0
  · subst h0; show (#[v0, v1] ++ Array.replicate k undef).getD 0 undef = v0; simp [Array.getElem?_append]
  by_cases h1 : q = 1
  · subst h1; show (#[v0, v1] ++ Array.replicate k undef).getD 1 undef = v1; simp [Array.getElem?_append]
  have e : ∀ {x y : Nat}, x ≠ y → Nat.beq x y = false := fun {x y} h => by
    cases hq : Nat.beq x y with
    | false => rfl
    | true => exact absurd (Nat.eq_of_beq_eq_true hq) h
  simp only [upd, e h0, e h1, cond_false]
  have h3 : 2 ≤ q := by omega
  simp [Array.getElem?_append, Array.getElem?_replicate, show ¬ q < 2 by omega]
  by_cases hk : q - 2 < k <;> simp [hk]
theorem Tm.call {i d : Nat} {op : Op} {rest : List Nat} {f : Nat} {args : Array Value} {Rp : Value → World → Prop} (htm : Tm a n σ) (hi : ops[i]? = some o) (ho : IsOp o d op) (hd : d < n)
    (hrun : (execOp (ev σ) o).run P w = (callFunc f args).run P w) (hc : CallOK P f args w Rp) (h : ∀ v w' a', Rp v w' → Tm a' n (upd σ d v) → wpOps P ops Q rest a' w') : wpOps P ops Q (i :: rest) a w := by
  rw [wpOps_cons]
  unfold wpOp
  simp only [hi, Region.wanted, ho.guard, if_true]
  left
  refine call_out (by rw [htm.eval]; exact hrun) hc ?_
  intro v w' hr
  rw [ho.dst]
  exact h v w' _ hr (htm.put hd v)
theorem run_ixa {d : Nat} {t el : TypeId} {x y : Operand} {e : Operand → Value} {g n c j size : Nat} {i : TypeInfo} (ho : IsOp o d (.indexAddr t x y)) (hu : P.underlying t = some (.slice el)) (hi : P.info? el = some i) (hs : i.size = size)
    (hx : e x = .slice (some ⟨g, 0, none⟩) n c) (hy : e y = .int .i64 ((j : Nat) : Int)) (hj : j < n) (w : World) : (execOp e o).run P w = .ok (.value (.pointer (some ⟨g, j * size, none⟩))) w := by
  have h2 : ¬ n ≤ j := by omega
  simp [execOp, ho.op, hx, hy, Instr.indexAt, asIntOf, run_underlying hu, h2, Go.sizeOf, typeInfo, hi, hs, Addr.add_mid]
theorem run_lda {c : Ctx} {d : Nat} {t : TypeId} {I : TI} {x : Operand} {e : Operand → Value} {g off : Nat} {vs : List Value} (ho : IsOp o d (.load t x)) (hr : RowOK c.ti P t I) (hc : I.comps = []) (hst : I.st = true) (hl : vs.length = I.size)
    (hx : e x = .pointer (some ⟨g, off, none⟩)) (hm : w.rangeAt g off vs) : (execOp e o).run P w = .ok (.value (.agg vs.toArray)) w := by
  rcases run_load_cells (P := P) hr hc hl hm with ⟨_, h⟩ | ⟨h, _⟩
  · have := h w hm
    simp [execOp, ho.op, hx, this]
  · rw [hst] at h; cases h
theorem run_alc {d : Nat} {t : TypeId} {e : Operand → Value} {i : TypeInfo} {z : Value} (ho : IsOp o d (.alloc t)) (hi : P.info? t = some i) (hz : i.zero = some z) (w : World) :
    (execOp e o).run P w = .ok (.value (.pointer (some ⟨w.heap.size, 0, none⟩))) (w.alloc (.cells z.cells t)) := by
  simp [execOp, ho.op, Instr.alloc, zeroValue, typeInfo, hi, hz, newVar, newRow, newObj, Sem.run]
theorem run_sto {c : Ctx} {t : TypeId} {I : TI} {x y : Operand} {e : Operand → Value} {g off : Nat} {v : Value} {arr : Array Value} {T : TypeId} (ho : IsOp0 o (.store t x y)) (hr : RowOK c.ti P t I) (hc : I.comps = []) (hx : e x = .pointer (some ⟨g, off, none⟩)) (hy : e y = v)
    (hs : v.cells.toList.length = I.size) (hone : ∀ u ∈ v.cells.toList, u.oneCell' = true) (hheap : w.heap[g]? = some (.cells arr T (0, 0))) (hfit : off + I.size ≤ arr.size) :
    (execOp e o).run P w = .ok .skip (w.setRow g (arr.toList.take off ++ v.cells.toList ++ arr.toList.drop (off + I.size)).toArray) := by
  have := run_storeAt_row (P := P) (w := w) hr hc hs hone hheap hfit
  simp [execOp, ho.op, hx, hy, this]
theorem Tm.skip0 {i : Nat} {op : Op} {rest : List Nat} (htm : Tm a n σ) (hi : ops[i]? = some o) (ho : IsOp0 o op) (hrun : (execOp (ev σ) o).run P w = .ok .skip w')
    (h : wpOps P ops Q rest a w') : wpOps P ops Q (i :: rest) a w := by
  rw [wpOps_cons]
  unfold wpOp
  simp only [hi, Region.wanted, ho.guard, if_true]
  left
  unfold Oper.wp
  rw [htm.eval, hrun]
  simp only [Oper.upon]
  rw [ho.dst]
  exact h
theorem run_ilss {d : Nat} {t t' : TypeId} {x y : Operand} {e : Operand → Value} {p q : Int} (ho : IsOp o d (.binOp .lss t x y t')) (hx : e x = .int .i64 p) (hy : e y = .int .i64 q) (w : World) :
    (execOp e o).run P w = .ok (.value (.bool (decide (p < q)))) w := run_ibin ho hx hy (fun w => by simp [Go.binOp, Op.intCmp]) w
theorem run_fnv {d : Nat} {x y : Operand} {t : Array TypeId} {e : Operand → Value} {g : Nat} {lb : Array Value} {v : Value} (ho : IsOp o d (.call { callee := .value x, args := #[y], argTypes := t })) (hx : e x = .func (.func g) #[] lb) (hy : e y = v) (w : World) :
    (execOp e o).run P w = (callFunc g (#[v] ++ lb)).run P w := by
  simp [execOp, ho.op, resolve, invoke, hx, hy, Deferred.ofValue]
theorem run_fnc {d : Nat} {x y : Operand} {t : Array TypeId} {e : Operand → Value} {g : Nat} {v u : Value} (ho : IsOp o d (.call { callee := .value (.func g), args := #[x, y], argTypes := t })) (he : e (.func g) = .func (.func g) #[] #[]) (hx : e x = v) (hy : e y = u) (w : World) :
    (execOp e o).run P w = (callFunc g #[v, u]).run P w := by
  simp [execOp, ho.op, resolve, invoke, he, hx, hy, Deferred.ofValue]
end

/-! ### slices.IndexFunc -/
def idxCode (r : Nat → Nat) (o : Nat → Oper) : Code :=
  .seq (.region (r 0) #[o 0] false) (.seq (.seq (.region (r 1) #[o 1, o 2, o 3] false) (.block 0 (.loop (.seq (.region (r 2) #[o 4] false) (.seq (.cond (.tmp 9) .skip (.exit 0)) (.seq (.block 1 (.seq (.region (r 3) #[o 5, o 6] false) (.seq (.region (r 4) #[o 7, o 8, o 9, o 10, o 11, o 12] false) (.cond (.tmp 16) (.seq (.region (r 5) #[o 13, o 14] false) .ret) .skip)))) (.region (r 6) #[o 15, o 16] false))))))) (.seq (.region (r 7) #[o 17] false) .ret))
structure IdxOps (t el ti : Nat) (o : Nat → Oper) : Prop where
  h0 : IsOp (o 0) 4 (.assign (.const (.int .i64 0)))
  h1 : IsOp (o 1) 6 (.move (.tmp 0))
  h2 : IsOp (o 2) 7 (.call { callee := .builtin .len, args := #[.tmp 6], argTypes := #[t] })
  h3 : IsOp (o 3) 8 (.move (.const (.int .i64 0)))
  h4 : IsOp (o 4) 9 (.binOp .lss ti (.tmp 8) (.tmp 7) ti)
  h5 : IsOp (o 5) 10 (.move (.tmp 8))
  h6 : IsOp (o 6) 5 (.assign (.tmp 10))
  h7 : IsOp (o 7) 11 (.move (.tmp 1))
  h8 : IsOp (o 8) 12 (.move (.tmp 0))
  h9 : IsOp (o 9) 13 (.move (.tmp 5))
  h10 : IsOp (o 10) 14 (.indexAddr t (.tmp 12) (.tmp 13))
  h11 : IsOp (o 11) 15 (.load el (.tmp 14))
  h12 : IsOp (o 12) 16 (.call { callee := .value (.tmp 11), args := #[.tmp 15], argTypes := #[el] })
  h13 : IsOp (o 13) 17 (.move (.tmp 5))
  h14 : IsOp (o 14) 4 (.assign (.tmp 17))
  h15 : IsOp (o 15) 18 (.binOp .add ti (.tmp 8) (.const (.int .i64 1)) ti)
  h16 : IsOp (o 16) 8 (.move (.tmp 18))
  h17 : IsOp (o 17) 4 (.assign (.const (.int .i64 (-1))))
structure IdxFn (P : Program) (f t ti el : Nat) (fn : Func) (r : Nat → Nat) (o : Nat → Oper) : Prop where
  pos : P.funcs[f]? = some fn
  name : (fn.name == "runtime.NumGoroutine") = false
  tmps : fn.ntmps = 19
  res : fn.results = #[.tmp 4]
  body : fn.body = some (idxCode r o)
  ops : IdxOps t el ti o
  und : P.underlying t = some (.slice el)
theorem tm_ret {P : Program} {fn : Func} {n : Nat} {a : Act} {w : World} {σ : Nat → Value} {R : Ending → World → Prop} {v : Value} (hr : fn.results = #[.tmp 4]) (htm : Tm a n σ) (h6 : σ 4 = v) (h : R (.returned v) w) : bodyPost P fn R .ret a w := by
  refine ⟨htm.defers, v, ?_, h⟩
  have h2 : a.tmps[4]?.getD undef = v := by have := htm.get 4; rw [h6] at this; simpa using this
  simp [results, hr, h2]
theorem elems_at {key : Nat → Nat} {φ : Ph} {size : Nat} {xs : List MV} {cells : List Value} (h : ElemsRep key φ size cells xs) {k : Nat} (hk : k < xs.length) :
    ((cells.drop (k * size)).take size).length = size ∧ Rep key φ ((cells.drop (k * size)).take size) xs[k] := by
  obtain ⟨p1, v1, p2, he, hl1, hl2, hrep⟩ := h.at (List.getElem?_eq_getElem hk)
  have : (cells.drop (k * size)).take size = v1 := by
    rw [he, List.append_assoc, ← hl1, List.drop_left, ← hl2, List.take_left]
  rw [this]
  exact ⟨hl2, hrep⟩
theorem rep_aggArg {key : Nat → Nat} {φ : Ph} {vs : List Value} {x : MV} (h : Rep key φ vs x) {ms : List MV} (hx : x = .agg ms) : ArgRep key φ (.agg vs.toArray) x := by
  subst hx
  cases h with
  | agg _ _ h => exact ⟨vs.toArray, rfl, by simpa using h⟩
section
variable {P : Program} {c : Ctx} {f t ti el : Nat} {fn : Func} {r : Nat → Nat} {o : Nat → Oper} {E : TI} {n cp g0 g : Nat} {ad : Option Addr} {ob : Option Nat} {w : World} {lb : Array Value} {S : Type} {Inv : S → (Nat → Prop) → Ph → World → Prop} {step : S → MV → Option (Bool × S)}
theorem idx_walk (hf : IdxFn P f t ti el fn r o) (hp : PredOK P c g lb Inv step) (hT : TIok P c.ti) (hE : c.tv el = some E) (hst : E.st = true) {xs : List MV} {cells : List Value} {cur : Array Value} {T : TypeId} {φ0 : Ph} {Z0 : Nat → Prop} {s0 s' : S} {ys : List MV}
    (hagg : ∀ x ∈ xs, ∃ ms, x = .agg ms) (had : 0 < xs.length → ad = some ⟨g0, 0, none⟩ ∧ ob = some g0 ∧ w.heap[g0]? = some (.cells cur T (0, 0)) ∧ cur.toList.take (xs.length * E.size) = cells) (hg0 : ∀ b, ob = some b → ¬ Z0 b ∧ b < w.heap.size ∧ ∀ off, φ0 b off = none)
    (hels : ElemsRep c.key φ0 E.size cells xs) (hbig : xs.length < 2 ^ 63) (hinv : Inv s0 Z0 φ0 w) (hnew : ∀ b, w.heap.size ≤ b → Z0 b) (himm : Imm φ0 w) (hd : delF step s0 xs = some (ys, s')) :
    Calls P f #[.slice ad xs.length cp, .func (.func g) #[] lb] w fun e W => ∃ Z φ, (∀ b, ob = some b → W.heap[b]? = w.heap[b]?) ∧
      ((e = .returned (.int .i64 (-1)) ∧ ys = xs ∧ Walk c ob Inv Z0 φ0 w s' Z φ W) ∨
       ∃ k, ∃ hk : k < xs.length, ∃ sk, e = .returned (.int .i64 (k : Int)) ∧ delF step s0 (xs.take (k + 1)) = some (xs.take k, sk) ∧ Walk c ob Inv Z0 φ0 w sk Z φ W) := by
  obtain ⟨hEi, hEc⟩ := tv_some hE
  obtain ⟨ie, z, hie, hse, hby, hz0, hzs⟩ := zero_size (hT _ E hEi) hEc
  refine calls_of_wp hf.pos hf.body ?_
  rw [hf.tmps]
  generalize hPost : (fun (e : Ending) (W : World) => ∃ Z φ, (∀ b, ob = some b → W.heap[b]? = w.heap[b]?) ∧
      ((e = .returned (.int .i64 (-1)) ∧ ys = xs ∧ Walk c ob Inv Z0 φ0 w s' Z φ W) ∨
       ∃ k, ∃ hk : k < xs.length, ∃ sk, e = .returned (.int .i64 (k : Int)) ∧ delF step s0 (xs.take (k + 1)) = some (xs.take k, sk) ∧ Walk c ob Inv Z0 φ0 w sk Z φ W)) = Post
  have key : ∀ a : Act, Tm a 19 (upd (upd (fun _ => undef) 0 (.slice ad xs.length cp)) 1 (.func (.func g) #[] lb)) → (idxCode r o).wp P (bodyPost P fn Post) a w := by
    intro a htm
    unfold idxCode
    refine wp_seq (wp_region ?_)
    rw [show List.range (#[o 0] : Array Oper).size = [0] from rfl]
    refine htm.step (v := .int .i64 0) rfl hf.ops.h0 (by decide) (run_asg hf.ops.h0 _) (fun a htm => ?_)
    refine wp_seq (wp_seq (wp_region ?_))
    rw [show List.range (#[o 1, o 2, o 3] : Array Oper).size = [0, 1, 2] from rfl]
    refine htm.step (v := .slice ad xs.length cp) rfl hf.ops.h1 (by decide) (run_mv hf.ops.h1 _) (fun a htm => ?_)
    refine htm.step (v := .int .i64 ((xs.length : Nat) : Int)) rfl hf.ops.h2 (by decide) (run_len hf.ops.h2 hf.und rfl _) (fun a htm => ?_)
    refine htm.step (v := .int .i64 0) rfl hf.ops.h3 (by decide) (run_mv hf.ops.h3 _) (fun a htm => ?_)
    refine wp_block (wp_loop (fun a W => ∃ σ, Tm a 19 σ ∧ σ 0 = .slice ad xs.length cp ∧ σ 1 = .func (.func g) #[] lb ∧ σ 7 = .int .i64 ((xs.length : Nat) : Int) ∧ ∃ k : Nat, k ≤ xs.length ∧ σ 8 = .int .i64 (k : Int) ∧
      (∀ b, ob = some b → W.heap[b]? = w.heap[b]?) ∧ ∃ s Z φ, delF step s0 (xs.take k) = some (xs.take k, s) ∧ Walk c ob Inv Z0 φ0 w s Z φ W)
      (fun a W => match a.tmps.getD 8 undef with | .int _ k => xs.length - k.toNat | _ => 0) ?_ ?_)
    · refine ⟨_, htm, rfl, rfl, rfl, 0, Nat.zero_le _, rfl, fun _ _ => rfl, s0, Z0, φ0, rfl, ⟨hinv, hnew, fun b hb => .inl hb, himm, .refl _ _ _, fun b off hb => (hg0 b hb).2.2 off⟩⟩
    · clear htm
      rintro a W ⟨σ, htm, h0, h1, h7, k, hk, h8, hrow, s, Z, φ, hdk, hW⟩
      refine wp_seq (wp_region ?_)
      rw [show List.range (#[o 4] : Array Oper).size = [0] from rfl]
      have hm8 : (match a.tmps.getD 8 undef with | .int _ k => xs.length - k.toNat | _ => 0) = xs.length - k := by rw [htm.get 8, h8]; simp
      rw [hm8]
      clear hm8
      refine htm.step (v := .bool (decide ((k : Int) < (xs.length : Int)))) rfl hf.ops.h4 (by decide) (run_ilss hf.ops.h4 h8 h7 _) (fun a htm => ?_)
      refine wp_seq ?_
      by_cases hlt : k < xs.length
      rotate_left
      · refine htm.cond (b := false) (by show Value.bool (decide ((k : Int) < (xs.length : Int))) = _; rw [decide_eq_false (by omega)]) ?_
        simp only [Bool.false_eq_true, if_false]
        refine wp_exit ?_
        have hkn : k = xs.length := by omega
        subst hkn
        rw [List.take_length] at hdk
        rw [hd] at hdk
        simp only [Option.some.injEq, Prod.mk.injEq] at hdk
        obtain ⟨rfl, rfl⟩ := hdk
        show Exit.then _ _ _ _ _
        refine wp_seq (wp_region ?_)
        rw [show List.range (#[o 17] : Array Oper).size = [0] from rfl]
        refine htm.step (v := .int .i64 (-1)) rfl hf.ops.h17 (by decide) (run_asg hf.ops.h17 _) (fun a htm => ?_)
        refine wp_ret ?_
        refine tm_ret hf.res htm (v := .int .i64 (-1)) rfl ?_
        rw [← hPost]
        exact ⟨Z, φ, hrow, .inl ⟨rfl, rfl, hW⟩⟩
      · refine htm.cond (b := true) (by show Value.bool (decide ((k : Int) < (xs.length : Int))) = _; rw [decide_eq_true (by omega)]) ?_
        simp only [if_true]
        refine wp_skip ?_
        obtain ⟨had1, hob, hheap, hcells⟩ := had (by omega)
        have h0' := h0
        rw [had1] at h0'
        obtain ⟨yk, sk, b, sk', e1, e2, e3⟩ := delF_at hd hlt
        rw [hdk] at e1
        simp only [Option.some.injEq, Prod.mk.injEq] at e1
        obtain ⟨rfl, rfl⟩ := e1
        have hels' := hels.mono hW.tr.ph
        obtain ⟨hl, hrep⟩ := elems_at hels' hlt
        have hrng : W.rangeAt g0 (k * E.size) ((cells.drop (k * E.size)).take E.size) := by
          intro j v hj
          have hjl : j < E.size := by have := (List.getElem?_eq_some_iff.1 hj).1; omega
          have hW0 : W.heap[g0]? = some (.cells cur T (0, 0)) := (hrow g0 hob).trans hheap
          rw [cell_of hW0, ← Array.getElem?_toList]
          rw [List.getElem?_take_of_lt hjl, List.getElem?_drop, ← hcells, List.getElem?_take] at hj
          split at hj
          · exact hj
          · cases hj
        obtain ⟨ms, hms⟩ := hagg _ (List.getElem_mem hlt)
        have harg : ArgRep c.key φ (.agg ((cells.drop (k * E.size)).take E.size).toArray) xs[k] := rep_aggArg hrep hms
        refine wp_seq (wp_block ?_)
        refine wp_seq (wp_region ?_)
        rw [show List.range (#[o 5, o 6] : Array Oper).size = [0, 1] from rfl]
        refine htm.step (v := .int .i64 (k : Int)) rfl hf.ops.h5 (by decide) ((run_mv hf.ops.h5 _).trans (by show Result.ok (Next.value (σ 8)) W = _; rw [h8])) (fun a htm => ?_)
        refine htm.step (v := .int .i64 (k : Int)) rfl hf.ops.h6 (by decide) (run_asg hf.ops.h6 _) (fun a htm => ?_)
        refine wp_seq (wp_region ?_)
        rw [show List.range (#[o 7, o 8, o 9, o 10, o 11, o 12] : Array Oper).size = [0, 1, 2, 3, 4, 5] from rfl]
        refine htm.step (v := .func (.func g) #[] lb) rfl hf.ops.h7 (by decide) ((run_mv hf.ops.h7 _).trans (by show Result.ok (Next.value (σ 1)) W = _; rw [h1])) (fun a htm => ?_)
        refine htm.step (v := .slice (some ⟨g0, 0, none⟩) xs.length cp) rfl hf.ops.h8 (by decide) ((run_mv hf.ops.h8 _).trans (by show Result.ok (Next.value (σ 0)) W = _; rw [h0'])) (fun a htm => ?_)
        refine htm.step (v := .int .i64 (k : Int)) rfl hf.ops.h9 (by decide) (run_mv hf.ops.h9 _) (fun a htm => ?_)
        refine htm.step rfl hf.ops.h10 (by decide) (run_ixa hf.ops.h10 hf.und hie hse rfl rfl hlt _) (fun a htm => ?_)
        refine htm.step rfl hf.ops.h11 (by decide) (run_lda hf.ops.h11 (hT _ E hEi) hEc hst hl rfl hrng) (fun a htm => ?_)
        refine htm.call rfl hf.ops.h12 (by decide) (run_fnv hf.ops.h12 rfl rfl _) (hp.call hW.inv hW.new hW.imm harg e2) ?_
        rintro v W2 a ⟨rfl, φ', t1, t2, t3⟩ htm
        have hnz : ∀ b, ob = some b → ¬ Z b := fun b hb hz => by
          have := hg0 b hb
          rcases hW.sub _ hz with h | h
          · exact this.1 h
          · omega
        have hrow2 : ∀ b, ob = some b → W2.heap[b]? = w.heap[b]? := fun b hb => (t1.heap b (hnz b hb) (Nat.lt_of_lt_of_le (hg0 b hb).2.1 hW.tr.size)).trans (hrow b hb)
        have hW2 : Walk c ob Inv Z0 φ0 w sk' Z φ' W2 := ⟨t3, fun b hb => hW.new b (Nat.le_trans t1.size hb), hW.sub, t2, hW.tr.trans (t1.sup fun b hb => .inl (hW.sub b hb)), fun b off hb => by rw [t1.free b off (hnz b hb)]; exact hW.free b off hb⟩
        cases b with
        | true =>
          refine htm.cond (b := true) rfl ?_
          simp only [if_true]
          refine wp_seq (wp_region ?_)
          rw [show List.range (#[o 13, o 14] : Array Oper).size = [0, 1] from rfl]
          refine htm.step (v := .int .i64 (k : Int)) rfl hf.ops.h13 (by decide) (run_mv hf.ops.h13 _) (fun a htm => ?_)
          refine htm.step (v := .int .i64 (k : Int)) rfl hf.ops.h14 (by decide) (run_asg hf.ops.h14 _) (fun a htm => ?_)
          refine wp_ret ?_
          refine tm_ret hf.res htm (v := .int .i64 (k : Int)) rfl ?_
          rw [← hPost]
          exact ⟨Z, φ', hrow2, .inr ⟨k, hlt, sk', rfl, e3, hW2⟩⟩
        | false =>
          refine htm.cond (b := false) rfl ?_
          simp only [Bool.false_eq_true, if_false]
          refine wp_skip ?_
          show Code.wp P (Code.region (r 6) #[o 15, o 16] false) _ a W2
          refine wp_region ?_
          rw [show List.range (#[o 15, o 16] : Array Oper).size = [0, 1] from rfl]
          refine htm.step (v := .int .i64 ((k + 1 : Nat) : Int)) rfl hf.ops.h15 (by decide) (run_iadd (q := 1) hf.ops.h15 h8 rfl (by omega) _) (fun a htm => ?_)
          refine htm.step (v := .int .i64 ((k + 1 : Nat) : Int)) rfl hf.ops.h16 (by decide) (run_mv hf.ops.h16 _) (fun a htm => ?_)
          refine ⟨⟨_, htm, h0, h1, h7, k + 1, by omega, rfl, hrow2, sk', Z, φ', ?_, hW2⟩, ?_⟩
          · rw [e3]
            have e4 : xs.take (k + 1) = xs.take k ++ [xs[k]] := by rw [List.take_add_one, List.getElem?_eq_getElem hlt]; rfl
            rw [e4]; rfl
          · have : a.tmps.getD 8 undef = .int .i64 ((k + 1 : Nat) : Int) := by rw [htm.get 8]; rfl
            rw [this]
            simp
            omega
  exact key _ (tm2 _ _ 17)
end
end Dn
/-
  slices.DeleteFunc of the library, walked, with whatever function. Conditions: none.
-/
set_option linter.unusedSimpArgs false
set_option linter.unusedVariables false
namespace Dn
open Go
theorem callOK_body {P : Program} {f : Nat} {fn : Func} {b : Code} {args : Array Value} {w : World} {R : Value → World → Prop} (hpos : P.funcs[f]? = some fn) (hname : (fn.name == "runtime.NumGoroutine") = false) (hbody : fn.body = some b)
    (h : Calls P f args w fun e W => ∃ v, e = .returned v ∧ R v W) : CallOK P f args w R := by
  have hrun : (callFunc f args).run P w = .ok (.enter f args) w := by
    have hn2 : ¬ fn.name = "runtime.NumGoroutine" := by simpa using hname
    simp [callFunc, hpos, hn2, hbody]
  unfold CallOK
  rw [hrun]
  exact h
def delfCode (r : Nat → Nat) (o : Nat → Oper) : Code :=
  .seq (.region (r 0) #[o 0] false) (.seq (.region (r 1) #[o 1, o 2, o 3, o 4] false) (.seq (.seq (.region (r 2) #[o 5, o 6] false) (.cond (.tmp 12) (.seq (.region (r 3) #[o 7, o 8] false) .ret) .skip)) (.seq (.seq (.region (r 4) #[o 9, o 10, o 11] false) (.block 0 (.loop (.seq (.seq (.region (r 5) #[o 12, o 13, o 14, o 15] false) (.cond (.tmp 19) .skip (.exit 0))) (.seq (.block 1 (.seq (.region (r 6) #[o 16, o 17, o 18, o 19, o 20, o 21] false) (.seq (.region (r 7) #[o 22, o 23, o 24, o 25] false) (.cond (.tmp 29) (.seq (.region (r 8) #[o 26, o 27, o 28, o 29, o 30] false) (.region (r 9) #[o 31, o 32, o 33] false)) .skip)))) (.region (r 10) #[o 34, o 35, o 36] false)))))) (.seq (.region (r 11) #[o 37, o 38, o 39, o 40] false) (.seq (.region (r 12) #[o 41, o 42, o 43, o 44] false) .ret)))))
structure DelfOps (t el ti tb fu fi : Nat) (o : Nat → Oper) : Prop where
  h0 : IsOp (o 0) 4 (.assign (.const (.slice none 0 0)))
  h1 : IsOp (o 1) 8 (.move (.tmp 0))
  h2 : IsOp (o 2) 9 (.move (.tmp 1))
  h3 : IsOp (o 3) 10 (.call { callee := .value (.func fi), args := #[.tmp 8, .tmp 9], argTypes := #[t, fu] })
  h4 : IsOp (o 4) 5 (.assign (.tmp 10))
  h5 : IsOp (o 5) 11 (.move (.tmp 5))
  h6 : IsOp (o 6) 12 (.binOp .eql ti (.tmp 11) (.const (.int .i64 (-1))) ti)
  h7 : IsOp (o 7) 13 (.move (.tmp 0))
  h8 : IsOp (o 8) 4 (.assign (.tmp 13))
  h9 : IsOp (o 9) 14 (.move (.tmp 5))
  h10 : IsOp (o 10) 15 (.binOp .add ti (.tmp 14) (.const (.int .i64 1)) ti)
  h11 : IsOp (o 11) 6 (.assign (.tmp 15))
  h12 : IsOp (o 12) 16 (.move (.tmp 6))
  h13 : IsOp (o 13) 17 (.move (.tmp 0))
  h14 : IsOp (o 14) 18 (.call { callee := .builtin .len, args := #[.tmp 17], argTypes := #[t] })
  h15 : IsOp (o 15) 19 (.binOp .lss ti (.tmp 16) (.tmp 18) ti)
  h16 : IsOp (o 16) 22 (.move (.tmp 0))
  h17 : IsOp (o 17) 23 (.move (.tmp 6))
  h18 : IsOp (o 18) 24 (.indexAddr t (.tmp 22) (.tmp 23))
  h19 : IsOp (o 19) 25 (.load el (.tmp 24))
  h20 : IsOp (o 20) 7 (.alloc el)
  h21 : IsOp0 (o 21) (.store el (.tmp 7) (.tmp 25))
  h22 : IsOp (o 22) 26 (.move (.tmp 1))
  h23 : IsOp (o 23) 27 (.load el (.tmp 7))
  h24 : IsOp (o 24) 28 (.call { callee := .value (.tmp 26), args := #[.tmp 27], argTypes := #[el] })
  h25 : IsOp (o 25) 29 (.unOp .not tb (.tmp 28))
  h26 : IsOp (o 26) 30 (.move (.tmp 0))
  h27 : IsOp (o 27) 31 (.move (.tmp 5))
  h28 : IsOp (o 28) 32 (.load el (.tmp 7))
  h29 : IsOp (o 29) 33 (.indexAddr t (.tmp 30) (.tmp 31))
  h30 : IsOp0 (o 30) (.store el (.tmp 33) (.tmp 32))
  h31 : IsOp (o 31) 34 (.move (.tmp 5))
  h32 : IsOp (o 32) 35 (.binOp .add ti (.tmp 34) (.const (.int .i64 1)) ti)
  h33 : IsOp (o 33) 5 (.assign (.tmp 35))
  h34 : IsOp (o 34) 20 (.move (.tmp 6))
  h35 : IsOp (o 35) 21 (.binOp .add ti (.tmp 20) (.const (.int .i64 1)) ti)
  h36 : IsOp (o 36) 6 (.assign (.tmp 21))
  h37 : IsOp (o 37) 36 (.move (.tmp 0))
  h38 : IsOp (o 38) 37 (.move (.tmp 5))
  h39 : IsOp (o 39) 38 (.slice t (.tmp 36) (some (.tmp 37)) none none)
  h40 : IsOp0 (o 40) (.call { callee := .builtin .clear, args := #[.tmp 38], argTypes := #[t] })
  h41 : IsOp (o 41) 39 (.move (.tmp 0))
  h42 : IsOp (o 42) 40 (.move (.tmp 5))
  h43 : IsOp (o 43) 41 (.slice t (.tmp 39) none (some (.tmp 40)) none)
  h44 : IsOp (o 44) 4 (.assign (.tmp 41))
structure DelfFn (P : Program) (f t ti tb fu fi el : Nat) (fn : Func) (r : Nat → Nat) (o : Nat → Oper) : Prop where
  pos : P.funcs[f]? = some fn
  name : (fn.name == "runtime.NumGoroutine") = false
  tmps : fn.ntmps = 42
  res : fn.results = #[.tmp 4]
  body : fn.body = some (delfCode r o)
  ops : DelfOps t el ti tb fu fi o
  und : P.underlying t = some (.slice el)
section
variable {P : Program} {c : Ctx} {f fi t ti tb fu el : Nat} {fn fni : Func} {r ri : Nat → Nat} {o oi : Nat → Oper} {E : TI} {cp g0 g : Nat} {ad : Option Addr} {ob : Option Nat} {w W W2 : World} {lb : Array Value} {S : Type} {Inv : S → (Nat → Prop) → Ph → World → Prop} {step : S → MV → Option (Bool × S)} {Z0 Z : Nat → Prop} {φ0 φ : Ph} {s : S}
theorem Walk.move (hp : PredOK P c g lb Inv step) (hW : Walk c ob Inv Z0 φ0 w s Z φ W) (hsz : W.heap.size ≤ W2.heap.size) (hsame : ∀ b, b < W.heap.size → ob ≠ some b → W2.heap[b]? = W.heap[b]?) (hrest : Rest W W2) (hnz : ∀ b, ob = some b → ¬ Z b) :
    Walk c ob Inv Z0 φ0 w s (fun b => (Z b ∧ b < W.heap.size) ∨ W2.heap.size ≤ b) φ W2 := by
  have hws := hW.tr.size
  refine ⟨hp.mono (hp.frame hW.inv hsz fun b hz hb => hsame b hb (fun e => hnz b e hz)) fun b hb => .inl hb, fun b hb => .inr hb, fun b hb => ?_, fun b off v hv => ?_, ?_, hW.free⟩
  · rcases hb with hb | hb
    · exact hW.sub b hb.1
    · exact .inr (by omega)
  · have h1 := hW.imm b off v hv
    have hlt := World.block_lt_of_cell? W _ h1
    have hne : ob ≠ some b := by intro e; rw [hW.free b off e] at hv; cases hv
    rw [World.cell?_of_block (hsame b hlt hne)]
    exact h1
  · refine hW.tr.trans ⟨.refl _, fun b hb hlt => ?_, fun _ _ _ => rfl, hsz, hrest⟩
    exact hsame b hlt (fun e => hb (.inr e))
/-- the row on the way -/
structure RowSt (c : Ctx) (sz n cp : Nat) (cells : List Value) (cur : Array Value) (φ : Ph) (i j : Nat) (ys : List MV) : Prop where
  size : cur.size = cp * sz
  done : ElemsRep c.key φ sz (cur.toList.take (i * sz)) ys
  len : ys.length = i
  rest : (cur.toList.take (n * sz)).drop (j * sz) = cells.drop (j * sz)
/-- behind slices.IndexFunc -/
def IdxPost (c : Ctx) (ob : Option Nat) {S : Type} (Inv : S → (Nat → Prop) → Ph → World → Prop) (step : S → MV → Option (Bool × S)) (Z0 : Nat → Prop) (φ0 : Ph) (w : World) (xs ys : List MV) (s0 s' : S) (v : Value) (W : World) : Prop :=
  ∃ Z φ, (∀ b, ob = some b → W.heap[b]? = w.heap[b]?) ∧ ((v = .int .i64 (-1) ∧ ys = xs ∧ Walk c ob Inv Z0 φ0 w s' Z φ W) ∨
    ∃ k, ∃ hk : k < xs.length, ∃ sk, v = .int .i64 (k : Int) ∧ delF step s0 (xs.take (k + 1)) = some (xs.take k, sk) ∧ Walk c ob Inv Z0 φ0 w sk Z φ W)
theorem del_walk (hf : DelfFn P f t ti tb fu fi el fn r o) (hfi : IdxFn P fi t ti el fni ri oi) (hp : PredOK P c g lb Inv step) (hT : TIok P c.ti) (hE : c.tv el = some E) (hst : E.st = true) (hpos : 0 < E.size) {xs : List MV} {cells : List Value} {cur : Array Value} {s0 s' : S} {ys : List MV}
    (hagg : ∀ x ∈ xs, ∃ ms, x = .agg ms) (had : 0 < xs.length → ad = some ⟨g0, 0, none⟩ ∧ ob = some g0 ∧ w.heap[g0]? = some (.cells cur el (0, 0)) ∧ cur.toList.take (xs.length * E.size) = cells ∧ xs.length ≤ cp ∧ cur.size = cp * E.size) (hg0 : ∀ b, ob = some b → ¬ Z0 b ∧ b < w.heap.size ∧ ∀ off, φ0 b off = none)
    (hels : ElemsRep c.key φ0 E.size cells xs) (hbig : xs.length < 2 ^ 63) (hinv : Inv s0 Z0 φ0 w) (hnew : ∀ b, w.heap.size ≤ b → Z0 b) (himm : Imm φ0 w) (hd : delF step s0 xs = some (ys, s')) :
    Calls P f #[.slice ad xs.length cp, .func (.func g) #[] lb] w fun e W => ∃ v, e = .returned v ∧ ∃ Z φ, Walk c ob Inv Z0 φ0 w s' Z φ W ∧
      ((v = .slice ad xs.length cp ∧ ys = xs ∧ ∀ b, ob = some b → W.heap[b]? = w.heap[b]?) ∨
       (0 < xs.length ∧ v = .slice (some ⟨g0, 0, none⟩) ys.length cp ∧ ∃ cur', W.heap[g0]? = some (.cells cur' el (0, 0)) ∧ cur'.size = cp * E.size ∧ ElemsRep c.key φ E.size (cur'.toList.take (ys.length * E.size)) ys)) := by
  obtain ⟨hEi, hEc⟩ := tv_some hE
  obtain ⟨ie, z, hie, hse, hby, hz0, hzs⟩ := zero_size (hT _ E hEi) hEc
  obtain ⟨ie2, z2, hie2, hz2, hzr⟩ := alloc_zero hE hT
  rw [hie] at hie2
  cases hie2
  rw [hz0] at hz2
  cases hz2
  have hz1 : ∀ v ∈ z.cells.toList, v.oneCell' = true := (hzr (env0 c.key fun _ _ => none)).cells
  have hidx : CallOK P fi #[.slice ad xs.length cp, .func (.func g) #[] lb] w (IdxPost c ob Inv step Z0 φ0 w xs ys s0 s') := by
    refine callOK_body hfi.pos hfi.name hfi.body ((idx_walk hfi hp hT hE hst hagg (fun h => ⟨(had h).1, (had h).2.1, (had h).2.2.1, (had h).2.2.2.1⟩) hg0 hels hbig hinv hnew himm hd).mono ?_)
    rintro e W ⟨Z, φ, h1, h2⟩
    rcases h2 with ⟨rfl, h3, h4⟩ | ⟨k, hk, sk, rfl, h3, h4⟩
    · exact ⟨_, rfl, Z, φ, h1, .inl ⟨rfl, h3, h4⟩⟩
    · exact ⟨_, rfl, Z, φ, h1, .inr ⟨k, hk, sk, rfl, h3, h4⟩⟩
  refine calls_of_wp hf.pos hf.body ?_
  rw [hf.tmps]
  generalize hPost : (fun (e : Ending) (W : World) => ∃ v, e = .returned v ∧ ∃ Z φ, Walk c ob Inv Z0 φ0 w s' Z φ W ∧
      ((v = .slice ad xs.length cp ∧ ys = xs ∧ ∀ b, ob = some b → W.heap[b]? = w.heap[b]?) ∨
       (0 < xs.length ∧ v = .slice (some ⟨g0, 0, none⟩) ys.length cp ∧ ∃ cur', W.heap[g0]? = some (.cells cur' el (0, 0)) ∧ cur'.size = cp * E.size ∧ ElemsRep c.key φ E.size (cur'.toList.take (ys.length * E.size)) ys))) = Post
  have key : ∀ a : Act, Tm a 42 (upd (upd (fun _ => undef) 0 (.slice ad xs.length cp)) 1 (.func (.func g) #[] lb)) → (delfCode r o).wp P (bodyPost P fn Post) a w := by
    intro a htm
    unfold delfCode
    refine wp_seq (wp_region ?_)
    rw [show List.range (#[o 0] : Array Oper).size = [0] from rfl]
    refine htm.step (v := .slice none 0 0) rfl hf.ops.h0 (by decide) (run_asg hf.ops.h0 _) (fun a htm => ?_)
    refine wp_seq (wp_region ?_)
    rw [show List.range (#[o 1, o 2, o 3, o 4] : Array Oper).size = [0, 1, 2, 3] from rfl]
    refine htm.step (v := .slice ad xs.length cp) rfl hf.ops.h1 (by decide) (run_mv hf.ops.h1 _) (fun a htm => ?_)
    refine htm.step (v := .func (.func g) #[] lb) rfl hf.ops.h2 (by decide) (run_mv hf.ops.h2 _) (fun a htm => ?_)
    refine htm.call rfl hf.ops.h3 (by decide) (run_fnc hf.ops.h3 rfl rfl rfl _) hidx ?_
    clear hidx
    rintro v W1 a1 ⟨Z, φ, hrow, hres⟩ htm1
    clear htm
    refine htm1.step (v := v) rfl hf.ops.h4 (by decide) (run_asg hf.ops.h4 _) (fun a2 htm2 => ?_)
    clear htm1
    refine wp_seq (wp_seq (wp_region ?_))
    rw [show List.range (#[o 5, o 6] : Array Oper).size = [0, 1] from rfl]
    refine htm2.step (v := v) rfl hf.ops.h5 (by decide) (run_mv hf.ops.h5 _) (fun a3 htm3 => ?_)
    clear htm2
    rcases hres with ⟨rfl, rfl, hW⟩ | ⟨k, hk, sk, rfl, hdk, hW⟩
    · refine htm3.step (v := .bool (decide ((-1 : Int) = -1))) rfl hf.ops.h6 (by decide) (run_ieq hf.ops.h6 rfl rfl _) (fun a htm => ?_)
      refine htm.cond (b := true) (by show Value.bool (decide ((-1 : Int) = -1)) = _; rfl) ?_
      simp only [if_true]
      refine wp_seq (wp_region ?_)
      rw [show List.range (#[o 7, o 8] : Array Oper).size = [0, 1] from rfl]
      refine htm.step (v := .slice ad ys.length cp) rfl hf.ops.h7 (by decide) (run_mv hf.ops.h7 _) (fun a htm => ?_)
      refine htm.step (v := .slice ad ys.length cp) rfl hf.ops.h8 (by decide) (run_asg hf.ops.h8 _) (fun a htm => ?_)
      refine wp_ret ?_
      refine tm_ret hf.res htm (v := .slice ad ys.length cp) rfl ?_
      rw [← hPost]
      exact ⟨_, rfl, Z, φ, hW, .inl ⟨rfl, rfl, hrow⟩⟩
    · refine htm3.step (v := .bool (decide ((k : Int) = -1))) rfl hf.ops.h6 (by decide) (run_ieq hf.ops.h6 rfl rfl _) (fun a htm => ?_)
      refine htm.cond (b := false) (by show Value.bool (decide ((k : Int) = -1)) = _; rw [decide_eq_false (by omega)]) ?_
      simp only [Bool.false_eq_true, if_false]
      refine wp_skip ?_
      refine wp_seq (wp_seq (wp_region ?_))
      rw [show List.range (#[o 9, o 10, o 11] : Array Oper).size = [0, 1, 2] from rfl]
      refine htm.step (v := .int .i64 (k : Int)) rfl hf.ops.h9 (by decide) (run_mv hf.ops.h9 _) (fun a htm => ?_)
      refine htm.step (v := .int .i64 ((k + 1 : Nat) : Int)) rfl hf.ops.h10 (by decide) (run_iadd (q := 1) hf.ops.h10 rfl rfl (by omega) _) (fun a htm => ?_)
      refine htm.step (v := .int .i64 ((k + 1 : Nat) : Int)) rfl hf.ops.h11 (by decide) (run_asg hf.ops.h11 _) (fun a4 htm4 => ?_)
      clear htm3 htm
      obtain ⟨had1, hob, hheap, hcells, hncp, hcsz⟩ := had (by omega)
      have hg1 := hg0 g0 hob
      have hobe : ∀ b, ob = some b → b = g0 := fun b hb => by rw [hob] at hb; exact (Option.some.inj hb).symm
      have hmul : ∀ {a b : Nat}, a ≤ b → a * E.size ≤ b * E.size := fun h => Nat.mul_le_mul_right _ h
      refine wp_block (wp_loop (fun a W => ∃ σ, Tm a 42 σ ∧ σ 0 = .slice (some ⟨g0, 0, none⟩) xs.length cp ∧ σ 1 = .func (.func g) #[] lb ∧ ∃ i j : Nat, i < j ∧ j ≤ xs.length ∧ σ 5 = .int .i64 (i : Int) ∧ σ 6 = .int .i64 (j : Int) ∧
        ∃ cur' sj Z φ yj, W.heap[g0]? = some (.cells cur' el (0, 0)) ∧ delF step s0 (xs.take j) = some (yj, sj) ∧ Walk c ob Inv Z0 φ0 w sj Z φ W ∧ RowSt c E.size xs.length cp cells cur' φ i j yj)
        (fun a W => match a.tmps.getD 6 undef with | .int _ k => xs.length - k.toNat | _ => 0) ?_ ?_)
      · refine ⟨_, htm4, by show Value.slice ad xs.length cp = _; rw [had1], rfl, k, k + 1, by omega, by omega, rfl, rfl, cur, sk, Z, φ, xs.take k, (hrow g0 hob).trans hheap, hdk, hW, ⟨hcsz, ?_, by rw [List.length_take]; omega, by rw [hcells]⟩⟩
        have h1 := (hels.mono hW.tr.ph).take k
        rw [← hcells, List.take_take] at h1
        have h2 : Nat.min (k * E.size) (xs.length * E.size) = k * E.size := Nat.min_eq_left (hmul (by omega))
        rw [show min (k * E.size) (xs.length * E.size) = k * E.size from h2] at h1
        exact h1
      · clear hrow hdk hW htm4 hheap
        rintro a W ⟨σ, htm, h0, h1, i, j, hij, hjn, h5, h6, cur', sj, Z', φ', yj, hrow, hdj, hW, hR⟩
        have hm6 : (match a.tmps.getD 6 undef with | .int _ k => xs.length - k.toNat | _ => 0) = xs.length - j := by rw [htm.get 6, h6]; simp
        rw [hm6]
        clear hm6
        have hnz : ∀ b, ob = some b → ¬ Z' b := fun b hb hz => by
          have := hobe b hb
          subst this
          rcases hW.sub _ hz with h | h
          · exact hg1.1 h
          · have := hg1.2.1; omega
        refine wp_seq (wp_seq (wp_region ?_))
        rw [show List.range (#[o 12, o 13, o 14, o 15] : Array Oper).size = [0, 1, 2, 3] from rfl]
        refine htm.step (v := .int .i64 (j : Int)) rfl hf.ops.h12 (by decide) ((run_mv hf.ops.h12 _).trans (by show Result.ok (Next.value (σ 6)) W = _; rw [h6])) (fun a htm => ?_)
        refine htm.step (v := .slice (some ⟨g0, 0, none⟩) xs.length cp) rfl hf.ops.h13 (by decide) ((run_mv hf.ops.h13 _).trans (by show Result.ok (Next.value (σ 0)) W = _; rw [h0])) (fun a htm => ?_)
        refine htm.step (v := .int .i64 ((xs.length : Nat) : Int)) rfl hf.ops.h14 (by decide) (run_len hf.ops.h14 hf.und rfl _) (fun a htm => ?_)
        refine htm.step (v := .bool (decide ((j : Int) < (xs.length : Int)))) rfl hf.ops.h15 (by decide) (run_ilss hf.ops.h15 rfl rfl _) (fun a htm => ?_)
        by_cases hlt : j < xs.length
        rotate_left
        · -- the end
          refine htm.cond (b := false) (by show Value.bool (decide ((j : Int) < (xs.length : Int))) = _; rw [decide_eq_false (by omega)]) ?_
          simp only [Bool.false_eq_true, if_false]
          refine wp_exit ?_
          have hjn' : j = xs.length := by omega
          subst hjn'
          rw [List.take_length, hd] at hdj
          simp only [Option.some.injEq, Prod.mk.injEq] at hdj
          obtain ⟨rfl, rfl⟩ := hdj
          have hlen := hR.len
          have hsz := hR.size
          have hfit : i * E.size + (xs.length - i) * E.size ≤ cur'.size := by
            rw [← Nat.add_mul, hsz]; exact hmul (by omega)
          have hin : i * E.size ≤ xs.length * E.size := hmul (by omega)
          have hnc : xs.length * E.size ≤ cp * E.size := hmul hncp
          obtain ⟨zs, hzl, hclr⟩ := run_clear_wide (P := P) (w := W) (t := t) (ty := (o 40).type) (g := g0) (off := i * E.size) (n := xs.length - i) (c := cp - i) hf.und hie hz0 hzs hz1 hrow (by omega) hfit
          have hgl : g0 < W.heap.size := Nat.lt_of_lt_of_le hg1.2.1 hW.tr.size
          obtain ⟨W3, hW3⟩ : ∃ W3, W3 = W.setRow g0 (cur'.toList.take (i * E.size) ++ zs ++ cur'.toList.drop (i * E.size + zs.length)).toArray := ⟨_, rfl⟩
          rw [← hW3] at hclr
          have hmove := hW.move hp (W2 := W3) (by rw [hW3]; simp [World.setRow]) (fun b _ hne => by rw [hW3]; exact setRow_other _ _ _ _ (fun e => hne (by rw [hob, e]))) (by rw [hW3]; exact .setRow _ _ _) hnz
          show Code.wp P (Code.seq _ _) _ a W
          refine wp_seq (wp_region ?_)
          rw [show List.range (#[o 37, o 38, o 39, o 40] : Array Oper).size = [0, 1, 2, 3] from rfl]
          refine htm.step (v := .slice (some ⟨g0, 0, none⟩) xs.length cp) rfl hf.ops.h37 (by decide) ((run_mv hf.ops.h37 _).trans (by show Result.ok (Next.value (σ 0)) W = _; rw [h0])) (fun a htm => ?_)
          refine htm.step (v := .int .i64 (i : Int)) rfl hf.ops.h38 (by decide) ((run_mv hf.ops.h38 _).trans (by show Result.ok (Next.value (σ 5)) W = _; rw [h5])) (fun a htm => ?_)
          refine htm.step rfl hf.ops.h39 (by decide) (run_fromA hf.ops.h39 hf.und hie hse rfl rfl (by omega) (by omega) _) (fun a htm => ?_)
          refine htm.step0 (v := .tuple #[]) rfl hf.ops.h40 (run_clr hf.ops.h40 rfl hclr) ?_
          refine wp_seq (wp_region ?_)
          rw [show List.range (#[o 41, o 42, o 43, o 44] : Array Oper).size = [0, 1, 2, 3] from rfl]
          refine htm.step (v := .slice (some ⟨g0, 0, none⟩) xs.length cp) rfl hf.ops.h41 (by decide) ((run_mv hf.ops.h41 _).trans (by show Result.ok (Next.value (σ 0)) W3 = _; rw [h0])) (fun a htm => ?_)
          refine htm.step (v := .int .i64 (i : Int)) rfl hf.ops.h42 (by decide) ((run_mv hf.ops.h42 _).trans (by show Result.ok (Next.value (σ 5)) W3 = _; rw [h5])) (fun a htm => ?_)
          refine htm.step (v := .slice (some ⟨g0, 0, none⟩) i cp) rfl hf.ops.h43 (by decide) (run_upto hf.ops.h43 hf.und hie hse rfl rfl (by omega) _) (fun a htm => ?_)
          refine htm.step (v := .slice (some ⟨g0, 0, none⟩) i cp) rfl hf.ops.h44 (by decide) (run_asg hf.ops.h44 _) (fun a htm => ?_)
          refine wp_ret ?_
          refine tm_ret hf.res htm (v := .slice (some ⟨g0, 0, none⟩) i cp) rfl ?_
          rw [← hPost]
          have hcl : cur'.toList.length = cp * E.size := by rw [Array.length_toList, hsz]
          refine ⟨_, rfl, _, φ', hmove, .inr ⟨by omega, by rw [hlen], _, by rw [hW3]; exact setRow_at _ hrow, ?_, ?_⟩⟩
          · simp only [List.size_toArray, List.length_append, List.length_take, List.length_drop, hcl, hzl]
            have : (xs.length - i) * E.size + i * E.size = xs.length * E.size := by rw [← Nat.add_mul]; congr 1; omega
            omega
          · rw [hlen, List.append_assoc, List.take_append_of_le_length (by rw [List.length_take, hcl]; omega), List.take_take, Nat.min_self]
            exact hR.done
        · refine htm.cond (b := true) (by show Value.bool (decide ((j : Int) < (xs.length : Int))) = _; rw [decide_eq_true (by omega)]) ?_
          simp only [if_true]
          refine wp_skip ?_
          obtain ⟨yk, sk', b, sk2, e1, e2, e3⟩ := delF_at hd hlt
          rw [hdj] at e1
          simp only [Option.some.injEq, Prod.mk.injEq] at e1
          obtain ⟨rfl, rfl⟩ := e1
          have hels' := hels.mono hW.tr.ph
          obtain ⟨hl, hrep⟩ := elems_at hels' hlt
          obtain ⟨seg, hseg⟩ : ∃ seg, seg = (cells.drop (j * E.size)).take E.size := ⟨_, rfl⟩
          rw [← hseg] at hl hrep
          have hcl : cur'.toList.length = cp * E.size := by rw [Array.length_toList, hR.size]
          have hj1 : j * E.size + E.size ≤ xs.length * E.size := by rw [← Nat.succ_mul]; exact hmul hlt
          have hnc : xs.length * E.size ≤ cp * E.size := hmul hncp
          have hi1 : i * E.size + E.size ≤ j * E.size := by rw [← Nat.succ_mul]; exact hmul hij
          have hrng : W.rangeAt g0 (j * E.size) seg := by
            intro q v hq
            have hql : q < E.size := by have := (List.getElem?_eq_some_iff.1 hq).1; omega
            rw [cell_of hrow, ← Array.getElem?_toList]
            rw [hseg, List.getElem?_take_of_lt hql, ← hR.rest, List.getElem?_drop, List.getElem?_take_of_lt (by omega)] at hq
            exact hq
          have hone : ∀ u ∈ seg, u.oneCell' = true := fun u hu => hels.cells1 u (by rw [hseg] at hu; exact List.mem_of_mem_drop (List.mem_of_mem_take hu))
          obtain ⟨ms, hms⟩ := hagg _ (List.getElem_mem hlt)
          have harg : ArgRep c.key φ' (.agg seg.toArray) xs[j] := rep_aggArg hrep hms
          have hsc : (Value.agg seg.toArray).cells.toList = seg := by simp [Value.cells]
          refine wp_seq (wp_block ?_)
          refine wp_seq (wp_region ?_)
          rw [show List.range (#[o 16, o 17, o 18, o 19, o 20, o 21] : Array Oper).size = [0, 1, 2, 3, 4, 5] from rfl]
          refine htm.step (v := .slice (some ⟨g0, 0, none⟩) xs.length cp) rfl hf.ops.h16 (by decide) ((run_mv hf.ops.h16 _).trans (by show Result.ok (Next.value (σ 0)) W = _; rw [h0])) (fun a htm => ?_)
          refine htm.step (v := .int .i64 (j : Int)) rfl hf.ops.h17 (by decide) ((run_mv hf.ops.h17 _).trans (by show Result.ok (Next.value (σ 6)) W = _; rw [h6])) (fun a htm => ?_)
          refine htm.step rfl hf.ops.h18 (by decide) (run_ixa hf.ops.h18 hf.und hie hse rfl rfl hlt _) (fun a htm => ?_)
          refine htm.step rfl hf.ops.h19 (by decide) (run_lda hf.ops.h19 (hT _ E hEi) hEc hst hl rfl hrng) (fun a htm => ?_)
          refine htm.step rfl hf.ops.h20 (by decide) (run_alc hf.ops.h20 hie hz0 _) (fun a htm => ?_)
          have hnewb : (W.alloc (.cells z.cells el)).heap[W.heap.size]? = some (.cells z.cells el (0, 0)) := heap_alloc_new W _
          refine htm.skip0 rfl hf.ops.h21 (run_sto (v := .agg seg.toArray) (off := 0) hf.ops.h21 (hT _ E hEi) hEc rfl rfl (by rw [hsc, hl]) (by rw [hsc]; exact hone) hnewb (by rw [hzs]; omega)) ?_
          rw [hsc]
          obtain ⟨W2, hW2⟩ : ∃ W2, W2 = (W.alloc (.cells z.cells el)).setRow W.heap.size (z.cells.toList.take 0 ++ seg ++ z.cells.toList.drop (0 + E.size)).toArray := ⟨_, rfl⟩
          rw [← hW2]
          have hs2 : W2.heap.size = W.heap.size + 1 := by rw [hW2, setRow_size]; simp
          have hold : ∀ b, b < W.heap.size → W2.heap[b]? = W.heap[b]? := fun b hb => by
            rw [hW2, setRow_other _ _ _ _ (by omega)]
            exact (Grow.alloc W z.cells el).old b hb
          have hseg2 : W2.heap[W.heap.size]? = some (.cells seg.toArray el (0, 0)) := by
            rw [hW2, setRow_at _ hnewb]
            congr 3
            have : z.cells.toList.drop (0 + E.size) = [] := by rw [Nat.zero_add, List.drop_of_length_le]; rw [Array.length_toList, hzs]; exact Nat.le_refl _
            rw [this]; simp
          have hrest2 : Rest W W2 := by rw [hW2]; exact (Rest.alloc W z.cells el).trans (.setRow _ _ _)
          have hgl : g0 < W.heap.size := Nat.lt_of_lt_of_le hg1.2.1 hW.tr.size
          have hmove := hW.move hp (W2 := W2) (by omega) (fun b hb _ => hold b hb) hrest2 hnz
          have hnz2 : ∀ b, ob = some b → ¬ ((Z' b ∧ b < W.heap.size) ∨ W2.heap.size ≤ b) := by
            intro b hb
            have := hobe b hb
            subst this
            rintro (h | h)
            · exact hnz b hb h.1
            · omega
          have hrng2 : ∀ {W : World} {b : Nat}, W.heap[b]? = some (.cells seg.toArray el (0, 0)) → W.rangeAt b 0 seg := by
            intro W b hb q v hq
            rw [cell_of hb, Nat.zero_add]
            simpa using hq
          refine wp_seq (wp_region ?_)
          rw [show List.range (#[o 22, o 23, o 24, o 25] : Array Oper).size = [0, 1, 2, 3] from rfl]
          refine htm.step (v := .func (.func g) #[] lb) rfl hf.ops.h22 (by decide) ((run_mv hf.ops.h22 _).trans (by show Result.ok (Next.value (σ 1)) W2 = _; rw [h1])) (fun a htm => ?_)
          refine htm.step rfl hf.ops.h23 (by decide) (run_lda hf.ops.h23 (hT _ E hEi) hEc hst hl rfl (hrng2 hseg2)) (fun a htm => ?_)
          refine htm.call rfl hf.ops.h24 (by decide) (run_fnv hf.ops.h24 rfl rfl _) (hp.call hmove.inv hmove.new hmove.imm harg e2) ?_
          rintro v W3 a ⟨rfl, φ3, t1, t2, t3⟩ htm
          have hrow3 : W3.heap[g0]? = some (.cells cur' el (0, 0)) := (t1.heap g0 (hnz2 g0 hob) (by omega)).trans ((hold g0 hgl).trans hrow)
          have hseg3 : W3.heap[W.heap.size]? = some (.cells seg.toArray el (0, 0)) := (t1.heap _ (by rintro (h | h) <;> omega) (by omega)).trans hseg2
          have hW3 : Walk c ob Inv Z0 φ0 w sk2 (fun b => (Z' b ∧ b < W.heap.size) ∨ W2.heap.size ≤ b) φ3 W3 := ⟨t3, fun b hb => hmove.new b (Nat.le_trans t1.size hb), hmove.sub, t2, hmove.tr.trans (t1.sup fun b hb => .inl (hmove.sub b hb)), fun b off hb => by rw [t1.free b off (hnz2 b hb)]; exact hmove.free b off hb⟩
          refine htm.step (v := .bool (!b)) rfl hf.ops.h25 (by decide) (run_not hf.ops.h25 rfl _) (fun a htm => ?_)
          cases b with
          | true =>
            refine htm.cond (b := false) rfl ?_
            simp only [Bool.false_eq_true, if_false]
            refine wp_skip ?_
            show Code.wp P (Code.region (r 10) #[o 34, o 35, o 36] false) _ a W3
            refine wp_region ?_
            rw [show List.range (#[o 34, o 35, o 36] : Array Oper).size = [0, 1, 2] from rfl]
            refine htm.step (v := .int .i64 (j : Int)) rfl hf.ops.h34 (by decide) ((run_mv hf.ops.h34 _).trans (by show Result.ok (Next.value (σ 6)) W3 = _; rw [h6])) (fun a htm => ?_)
            refine htm.step (v := .int .i64 ((j + 1 : Nat) : Int)) rfl hf.ops.h35 (by decide) (run_iadd (q := 1) hf.ops.h35 rfl rfl (by omega) _) (fun a htm => ?_)
            refine htm.step (v := .int .i64 ((j + 1 : Nat) : Int)) rfl hf.ops.h36 (by decide) (run_asg hf.ops.h36 _) (fun a htm => ?_)
            refine ⟨⟨_, htm, h0, h1, i, j + 1, by omega, by omega, h5, rfl, cur', sk2, _, φ3, yj, hrow3, by rw [e3]; rfl, hW3, ⟨hR.size, hR.done.mono t1.ph, hR.len, ?_⟩⟩, ?_⟩
            · rw [show (j + 1) * E.size = j * E.size + E.size from Nat.succ_mul _ _, ← List.drop_drop, ← List.drop_drop, hR.rest]
            · have : a.tmps.getD 6 undef = .int .i64 ((j + 1 : Nat) : Int) := by rw [htm.get 6]; rfl
              rw [this]; simp; omega
          | false =>
            refine htm.cond (b := true) rfl ?_
            simp only [if_true]
            refine wp_seq (wp_region ?_)
            rw [show List.range (#[o 26, o 27, o 28, o 29, o 30] : Array Oper).size = [0, 1, 2, 3, 4] from rfl]
            refine htm.step (v := .slice (some ⟨g0, 0, none⟩) xs.length cp) rfl hf.ops.h26 (by decide) ((run_mv hf.ops.h26 _).trans (by show Result.ok (Next.value (σ 0)) W3 = _; rw [h0])) (fun a htm => ?_)
            refine htm.step (v := .int .i64 (i : Int)) rfl hf.ops.h27 (by decide) ((run_mv hf.ops.h27 _).trans (by show Result.ok (Next.value (σ 5)) W3 = _; rw [h5])) (fun a htm => ?_)
            refine htm.step rfl hf.ops.h28 (by decide) (run_lda hf.ops.h28 (hT _ E hEi) hEc hst hl rfl (hrng2 hseg3)) (fun a htm => ?_)
            refine htm.step rfl hf.ops.h29 (by decide) (run_ixa hf.ops.h29 hf.und hie hse rfl rfl (by omega) _) (fun a htm => ?_)
            refine htm.skip0 rfl hf.ops.h30 (run_sto (v := .agg seg.toArray) (off := i * E.size) hf.ops.h30 (hT _ E hEi) hEc rfl rfl (by rw [hsc, hl]) (by rw [hsc]; exact hone) hrow3 (by rw [hR.size]; omega)) ?_
            rw [hsc]
            obtain ⟨W4, hW4⟩ : ∃ W4, W4 = W3.setRow g0 (cur'.toList.take (i * E.size) ++ seg ++ cur'.toList.drop (i * E.size + E.size)).toArray := ⟨_, rfl⟩
            rw [← hW4]
            have hmove4 := hW3.move hp (W2 := W4) (by rw [hW4, setRow_size]; exact Nat.le_refl _) (fun b _ hne => by rw [hW4]; exact setRow_other _ _ _ _ (fun e => hne (by rw [hob, e]))) (by rw [hW4]; exact .setRow _ _ _) hnz2
            refine wp_region ?_
            rw [show List.range (#[o 31, o 32, o 33] : Array Oper).size = [0, 1, 2] from rfl]
            refine htm.step (v := .int .i64 (i : Int)) rfl hf.ops.h31 (by decide) ((run_mv hf.ops.h31 _).trans (by show Result.ok (Next.value (σ 5)) W4 = _; rw [h5])) (fun a htm => ?_)
            refine htm.step (v := .int .i64 ((i + 1 : Nat) : Int)) rfl hf.ops.h32 (by decide) (run_iadd (q := 1) hf.ops.h32 rfl rfl (by omega) _) (fun a htm => ?_)
            refine htm.step (v := .int .i64 ((i + 1 : Nat) : Int)) rfl hf.ops.h33 (by decide) (run_asg hf.ops.h33 _) (fun a htm => ?_)
            show Code.wp P (Code.region (r 10) #[o 34, o 35, o 36] false) _ a W4
            refine wp_region ?_
            rw [show List.range (#[o 34, o 35, o 36] : Array Oper).size = [0, 1, 2] from rfl]
            refine htm.step (v := .int .i64 (j : Int)) rfl hf.ops.h34 (by decide) ((run_mv hf.ops.h34 _).trans (by show Result.ok (Next.value (σ 6)) W4 = _; rw [h6])) (fun a htm => ?_)
            refine htm.step (v := .int .i64 ((j + 1 : Nat) : Int)) rfl hf.ops.h35 (by decide) (run_iadd (q := 1) hf.ops.h35 rfl rfl (by omega) _) (fun a htm => ?_)
            refine htm.step (v := .int .i64 ((j + 1 : Nat) : Int)) rfl hf.ops.h36 (by decide) (run_asg hf.ops.h36 _) (fun a htm => ?_)
            refine ⟨⟨_, htm, h0, h1, i + 1, j + 1, by omega, by omega, rfl, rfl, _, sk2, _, φ3, yj ++ [xs[j]], by rw [hW4]; exact setRow_at _ hrow3, by rw [e3]; rfl, hmove4, ⟨?_, ?_, by rw [List.length_append, hR.len]; rfl, ?_⟩⟩, ?_⟩
            · simp only [List.size_toArray, List.length_append, List.length_take, List.length_drop, hcl, hl]
              omega
            · rw [show (i + 1) * E.size = i * E.size + E.size from Nat.succ_mul _ _]
              have h9 : (cur'.toList.take (i * E.size) ++ seg).length = i * E.size + E.size := by rw [List.length_append, List.length_take, hcl, hl]; omega
              show ElemsRep c.key φ3 E.size (List.take (i * E.size + E.size) (cur'.toList.take (i * E.size) ++ seg ++ cur'.toList.drop (i * E.size + E.size))) _
              rw [← h9, List.take_left]
              exact (hR.done.mono t1.ph).append ⟨seg, [], by simp, hl, hrep.mono t1.ph, rfl⟩
            · show (List.take (xs.length * E.size) (cur'.toList.take (i * E.size) ++ seg ++ cur'.toList.drop (i * E.size + E.size))).drop ((j + 1) * E.size) = _
              have h8 : cells.drop ((j + 1) * E.size) = (cur'.toList.take (xs.length * E.size)).drop ((j + 1) * E.size) := by
                rw [show (j + 1) * E.size = j * E.size + E.size from Nat.succ_mul _ _, ← List.drop_drop, ← List.drop_drop, hR.rest]
              rw [h8]
              apply List.ext_getElem?
              intro q
              have h10 : (j + 1) * E.size = j * E.size + E.size := Nat.succ_mul _ _
              rw [List.getElem?_drop, List.getElem?_drop, List.getElem?_take, List.getElem?_take]
              split
              · have h9 : (cur'.toList.take (i * E.size) ++ seg).length = i * E.size + E.size := by rw [List.length_append, List.length_take, hcl, hl]; omega
                rw [List.getElem?_append_right (by rw [h9]; omega), h9, List.getElem?_drop]
                congr 1
                omega
              · rfl
            · have : a.tmps.getD 6 undef = .int .i64 ((j + 1 : Nat) : Int) := by rw [htm.get 6]; rfl
              rw [this]; simp; omega
  exact key _ (tm2 _ _ 40)
theorem del_sem (hf : DelfFn P f t ti tb fu fi el fn r o) (hfi : IdxFn P fi t ti el fni ri oi) (hT : TIok P c.ti) (hE : c.tv el = some E) (hst : E.st = true) (hpos : 0 < E.size) : DelSem P c f el := by
  refine ⟨?_⟩
  intro S Inv step g lb hp v0 xs ys w Z0 φ0 s0 s' hagg hfam hdis hinv hnew himm hd
  obtain ⟨hEi, hEc⟩ := tv_some hE
  obtain ⟨I, cells, hI, hIc, hown, hels, hblk⟩ := hfam.row
  have hI : c.ti el = some I := hI
  rw [hEi] at hI
  cases hI
  have hown : w.ownsRow 0 el E.size v0 xs.length cells := hown
  have hels : ElemsRep c.key φ0 E.size cells xs := hels
  have hfree : ∀ b, v0.ownBlock = some b → ∀ off, φ0 b off = none := by
    intro b hb off
    cases h : φ0 b off with
    | none => rfl
    | some u => have := ((hblk b hb).2.1 off u h).1; cases this
  rcases hown.2 with ⟨rfl, h0⟩ | ⟨gb, cap, cur, rfl, _, hheap, hnc, hcm, hcs, htk⟩
  · have hx : xs = [] := List.eq_nil_of_length_eq_zero h0
    subst hx
    refine callOK_body hf.pos hf.name hf.body ((del_walk (ob := none) (g0 := 0) (cur := #[]) hf hfi hp hT hE hst hpos (cp := 0) hagg (fun h => absurd h (by simp)) (fun b hb => by cases hb) hels (by simp) hinv hnew himm hd).mono ?_)
    rintro e W ⟨v, rfl, Z, φ, hW, h1⟩
    rcases h1 with ⟨rfl, rfl, _⟩ | ⟨h1, _⟩
    · exact ⟨_, rfl, Z, φ, hW, ⟨E, [], hEi, hEc, ⟨by simp, .inl ⟨rfl, rfl⟩⟩, rfl, fun blk hb => by simp [Value.ownBlock] at hb⟩, fun _ h => h⟩
    · simp at h1
  · have hlt := lt_of_heap hheap
    have hm63 : xs.length < 2 ^ 63 := by unfold Go.maxLen at hcm; omega
    refine callOK_body hf.pos hf.name hf.body ((del_walk (ob := some gb) (g0 := gb) hf hfi hp hT hE hst hpos (cp := cap) hagg (fun h => ⟨rfl, rfl, hheap, htk, hnc, hcs⟩) (fun b hb => by cases hb; exact ⟨hdis gb rfl, hlt, hfree gb rfl⟩) hels hm63 hinv hnew himm hd).mono ?_)
    rintro e W ⟨v, rfl, Z, φ, hW, h1⟩
    rcases h1 with ⟨rfl, rfl, h2⟩ | ⟨h0, rfl, cur', h2, h3, h4⟩
    · refine ⟨_, rfl, Z, φ, hW, ⟨E, cells, hEi, hEc, ⟨hown.1, .inr ⟨gb, cap, cur, rfl, Nat.zero_le _, (h2 gb rfl).trans hheap, hnc, hcm, hcs, htk⟩⟩, hels.mono hW.tr.ph, fun blk hb => ⟨hb, fun off u hu => ?_, fun hc => hc.elim⟩⟩, fun _ h => h⟩
      have hu : φ blk off = some u := hu
      rw [hW.free blk off hb] at hu; cases hu
    · have hle : ys.length ≤ cap := Nat.le_trans (delF_len hd) hnc
      refine ⟨_, rfl, Z, φ, hW, ⟨E, cur'.toList.take (ys.length * E.size), hEi, hEc, ⟨?_, .inr ⟨gb, cap, cur', rfl, Nat.zero_le _, ?_, hle, hcm, h3, rfl⟩⟩, h4, fun blk hb => ⟨hb, fun off u hu => ?_, fun hc => hc.elim⟩⟩, fun _ h => h⟩
      · exact h4.length
      · have : cur' = cur' := rfl
        exact h2
      · have hu : φ blk off = some u := hu
        rw [hW.free blk off hb] at hu; cases hu
end
end Dn
/-
  Reasoning about functions on typed values. Conditions: none.
-/
set_option linter.unusedVariables false
namespace Dn
open Go
section
variable {α R : Type}
theorem ix_nat {l : List α} {k : Nat} (h : k < l.length) (K : α → Option R) : ix l (k : Int) K = K l[k] := by
  simp [ix, h]
theorem ix_int {l : List α} {i : Int} (h0 : 0 ≤ i) (h : i.toNat < l.length) (K : α → Option R) : ix l i K = K l[i.toNat] := by
  simp [ix, h, h0]
theorem ix_zero {l : List α} (h : 0 < l.length) (K : α → Option R) : ix l 0 K = K l[0] := by simp [ix, h]
theorem if_t {c : Prop} [Decidable c] (h : c) (x y : α) : (if c then x else y) = x := if_pos h
@[simp] theorem bd_id {A : Type} (x : Option A) : bd x (fun a => some a) = x := by cases x <;> rfl
end
/-- it gives something that .. -/
def Gives {A : Type} (x : Option A) (Q : A → Prop) : Prop := ∃ a, x = some a ∧ Q a
section
variable {A B α σ ρ : Type}
theorem Gives.mk {a : A} {Q : A → Prop} (h : Q a) : Gives (some a) Q := ⟨a, rfl, h⟩
theorem Gives.of {x : Option A} {a : A} {Q : A → Prop} (e : x = some a) (h : Q a) : Gives x Q := ⟨a, e, h⟩
theorem Gives.bd {x : Option A} {K : A → Option B} {P : A → Prop} {Q : B → Prop} (h : Gives x P) (hk : ∀ a, P a → Gives (K a) Q) : Gives (bd x K) Q := by
  obtain ⟨a, rfl, hp⟩ := h; exact hk a hp
theorem Gives.ite {c : Prop} [Decidable c] {x y : Option A} {Q : A → Prop} (h1 : c → Gives x Q) (h2 : ¬ c → Gives y Q) : Gives (if c then x else y) Q := by
  split
  · exact h1 ‹_›
  · exact h2 ‹_›
theorem Gives.imp {x : Option A} {P Q : A → Prop} (h : Gives x P) (hpq : ∀ a, P a → Q a) : Gives x Q := by
  obtain ⟨a, e, hp⟩ := h; exact ⟨a, e, hpq a hp⟩
theorem Gives.ix {l : List α} {k : Nat} {K : α → Option A} {Q : A → Prop} (h : k < l.length) (hk : Gives (K l[k]) Q) : Gives (ix l (k : Int) K) Q := by rw [ix_nat h]; exact hk
theorem Gives.eq {x : Option A} {a : A} (h : Gives x (· = a)) : x = some a := by obtain ⟨b, e, rfl⟩ := h; exact e

variable {body : σ → Option (Sum σ ρ)}
/-- a loop, by what holds at its head and what falls -/
theorem Gives.loop (I : σ → Prop) (μ : σ → Nat) {Q : ρ → Prop} {s : σ} (hs : I s) (h : ∀ s, I s → Gives (body s) fun x => match x with | .inl s' => I s' ∧ μ s' < μ s | .inr r => Q r) : Gives (Loop body s) Q := by
  refine Loop_inv I μ Q (fun s hs => ?_) hs
  obtain ⟨x, e, hx⟩ := h s hs
  cases x with
  | inl s' => exact .inl ⟨s', e, hx⟩
  | inr r => exact .inr ⟨r, e, hx⟩
/-- a loop whose states are known: the k-th, up to the n-th, at which it ends -/
theorem Gives.count (S : Nat → σ) (n : Nat) {Q : ρ → Prop} (P : Nat → Prop) {s : σ} (e : s = S 0) (h0 : P 0) (h : ∀ k, k < n → P k → Gives (body (S k)) fun x => match x with | .inl s' => s' = S (k + 1) ∧ P (k + 1) | .inr r => Q r)
    (he : P n → Gives (body (S n)) fun x => match x with | .inl _ => False | .inr r => Q r) : Gives (Loop body s) Q := by
  subst e
  refine Loop_nat S n Q P h0 (fun k hk hp => ?_) (fun hp => ?_)
  · obtain ⟨x, e, hx⟩ := h k hk hp
    cases x with
    | inl s' => obtain ⟨rfl, hx⟩ := hx; exact .inl ⟨e, hx⟩
    | inr r => exact .inr ⟨r, e, hx⟩
  · obtain ⟨x, e, hx⟩ := he hp
    cases x with
    | inl s' => exact hx.elim
    | inr r => exact ⟨r, e, hx⟩
/-- a list, looked through from its head on: state b, element a; or it ends early -/
def scan {α β ρ : Type} (f : Nat → β → α → Sum β ρ) (fin : β → ρ) : List α → Nat → β → ρ
  | [], _, b => fin b
  | a :: l, k, b => match f k b a with
    | .inl b' => scan f fin l (k + 1) b'
    | .inr r => r
/-- a loop that looks through a list -/
theorem Loop_scan {β : Type} (L : List α) (S : β → Int → σ) (I : Nat → β → Prop) (f : Nat → β → α → Sum β ρ) (fin : β → ρ) {b0 : β} {s : σ} (e0 : s = S b0 0) (h0 : I 0 b0)
    (h : ∀ k b (hk : k < L.length), I k b → body (S b (k : Int)) = some (match f k b L[k] with | .inl b' => .inl (S b' ((k + 1 : Nat) : Int)) | .inr r => .inr r) ∧ ∀ b', f k b L[k] = .inl b' → I (k + 1) b')
    (he : ∀ b, I L.length b → body (S b (L.length : Int)) = some (.inr (fin b))) : Loop body s = some (scan f fin L 0 b0) := by
  subst e0
  have key : ∀ d k b, k + d = L.length → I k b → ∃ n, iter body n (S b (k : Int)) = some (scan f fin (L.drop k) k b) := by
    intro d
    induction d with
    | zero =>
      intro k b hk hi
      have : k = L.length := by omega
      subst this
      exact ⟨1, by simp [iter, he b hi, scan]⟩
    | succ d ih =>
      intro k b hk hi
      have hkl : k < L.length := by omega
      obtain ⟨h1, h2⟩ := h k b hkl hi
      rw [List.drop_eq_getElem_cons hkl]
      simp only [scan]
      cases hf : f k b L[k] with
      | inl b' =>
        obtain ⟨n, hn⟩ := ih (k + 1) b' (by omega) (h2 b' hf)
        refine ⟨n + 1, ?_⟩
        simp only [iter, h1, hf]
        exact hn
      | inr r => exact ⟨1, by simp only [iter, h1, hf]⟩
  obtain ⟨n, hn⟩ := key L.length 0 b0 (by omega) h0
  rw [List.drop_zero] at hn
  exact Loop_of_iter hn
end
theorem wrap64 {x : Int} (h1 : -9223372036854775808 ≤ x) (h2 : x ≤ 9223372036854775807) : IntKind.wrap .i64 x = x := wrap_id h1 h2
/-- numbers of a kind, and of no more than a slice can be long -/
def InI (n : Int) : Prop := -9223372036854775808 ≤ n ∧ n ≤ 9223372036854775807
end Dn
/-
  Functions of the library, on typed values. Conditions: none.
-/
set_option linter.unusedVariables false
namespace Dn
open Go
def cmp3 (x y : Int) : Int := if x < y then -1 else if y < x then 1 else 0
/-- so many stand ahead of a number -/
def lbK {α : Type} (key : α → Int) (L : List α) (s : Int) : Nat := L.countP (fun e => decide (key e < s))
def hasK {α : Type} (key : α → Int) (L : List α) (s : Int) : Bool := L.any fun e => decide (key e = s)
def IncK {α : Type} (key : α → Int) (L : List α) : Prop := L.Pairwise fun a b => key a < key b
section
variable {α τ : Type} {key : α → Int}
theorem lbK_eq {L : List α} {s : Int} {p : Nat} (hp : p ≤ L.length) (h1 : ∀ k (hk : k < L.length), k < p → key L[k] < s) (h2 : ∀ k (hk : k < L.length), p ≤ k → s ≤ key L[k]) : lbK key L s = p := by
  have h3 : (L.take p).countP (fun e => decide (key e < s)) = (L.take p).length := by
    rw [List.countP_eq_length]
    intro a ha
    obtain ⟨k, hk, rfl⟩ := List.mem_iff_getElem.1 ha
    have hk2 : k < p := by rw [List.length_take] at hk; omega
    rw [List.getElem_take]
    exact decide_eq_true (h1 k (by omega) hk2)
  have h4 : (L.drop p).countP (fun e => decide (key e < s)) = 0 := by
    rw [List.countP_eq_zero]
    intro a ha
    obtain ⟨k, hk, rfl⟩ := List.mem_iff_getElem.1 ha
    rw [List.length_drop] at hk
    rw [List.getElem_drop]
    have := h2 (p + k) (by omega) (by omega)
    simp; omega
  have h5 : lbK key L s = (L.take p ++ L.drop p).countP (fun e => decide (key e < s)) := by rw [List.take_append_drop]; rfl
  rw [h5, List.countP_append, h3, h4, List.length_take]
  omega
theorem IncK.lt {L : List α} (hs : IncK key L) {i j : Nat} (hj : j < L.length) (h : i < j) : key (L[i]'(by omega)) < key L[j] := List.pairwise_iff_getElem.1 hs i j (by omega) hj h
theorem IncK.le {L : List α} (hs : IncK key L) {i j : Nat} (hj : j < L.length) (h : i ≤ j) : key (L[i]'(by omega)) ≤ key L[j] := by
  rcases Nat.lt_or_eq_of_le h with h | h
  · exact Int.le_of_lt (hs.lt hj h)
  · subst h; exact Int.le_refl _
theorem lbK_le (L : List α) (s : Int) : lbK key L s ≤ L.length := List.countP_le_length
/-- what stands where a number is, or would be -/
theorem IncK.lb {L : List α} (hs : IncK key L) (s : Int) : (∀ k (hk : k < L.length), k < lbK key L s → key L[k] < s) ∧ (∀ k (hk : k < L.length), lbK key L s ≤ k → s ≤ key L[k]) := by
  have : ∃ p, p ≤ L.length ∧ (∀ k (hk : k < L.length), k < p → key L[k] < s) ∧ (∀ k (hk : k < L.length), p ≤ k → s ≤ key L[k]) := by
    induction L with
    | nil => exact ⟨0, Nat.le_refl _, fun k hk => by simp at hk, fun k hk => by simp at hk⟩
    | cons a l ih =>
      have hs' := List.pairwise_cons.1 hs
      by_cases ha : key a < s
      · obtain ⟨p, h1, h2, h3⟩ := ih hs'.2
        refine ⟨p + 1, by simp; omega, fun k hk hkp => ?_, fun k hk hkp => ?_⟩
        · cases k with
          | zero => exact ha
          | succ k => exact h2 k (by simpa using hk) (by omega)
        · cases k with
          | zero => omega
          | succ k => exact h3 k (by simpa using hk) (by omega)
      · refine ⟨0, Nat.zero_le _, fun k hk hkp => by omega, fun k hk _ => ?_⟩
        cases k with
        | zero => simp; omega
        | succ k =>
          have := hs'.1 (l[k]'(by simpa using hk)) (List.getElem_mem _)
          simp only [List.getElem_cons_succ]; omega
  obtain ⟨p, h1, h2, h3⟩ := this
  rw [lbK_eq h1 h2 h3]
  exact ⟨h2, h3⟩
theorem IncK.has {L : List α} (hs : IncK key L) (s : Int) : hasK key L s = true ↔ ∃ h : lbK key L s < L.length, key L[lbK key L s] = s := by
  obtain ⟨h1, h2⟩ := hs.lb s
  unfold hasK
  rw [List.any_eq_true]
  constructor
  · rintro ⟨x, hx, he⟩
    obtain ⟨k, hk, rfl⟩ := List.mem_iff_getElem.1 hx
    have he : key L[k] = s := by simpa using he
    have hge : lbK key L s ≤ k := by
      refine Nat.le_of_not_lt fun hlt => ?_
      have := h1 k hk hlt; omega
    have hl : lbK key L s < L.length := by omega
    refine ⟨hl, ?_⟩
    have := h2 _ hl (Nat.le_refl _)
    have := hs.le hk hge
    omega
  · rintro ⟨h, he⟩
    exact ⟨_, List.getElem_mem h, decide_eq_true he⟩
noncomputable def bsL (x : List α) (target : τ) (cmp : α → τ → Option Int) (st : Int × Int) : Option ((Int × Int) ⊕ Int) :=
  if st.1 < st.2 then
  if (0 : Int) ≤ 1 then
  ix x (IntKind.wrap .i64 (Int.fdiv (IntKind.wrap .u64 (IntKind.wrap .i64 (st.1 + st.2))) (2 ^ min (Int.toNat 1) (IntKind.bits .u64)))) fun y =>
  bd (cmp y target) fun rA =>
  bd (
    if rA < 0 then
    some (IntKind.wrap .i64 ((IntKind.wrap .i64 (Int.fdiv (IntKind.wrap .u64 (IntKind.wrap .i64 (st.1 + st.2))) (2 ^ min (Int.toNat 1) (IntKind.bits .u64)))) + 1), st.2)
    else
    some (st.1, IntKind.wrap .i64 (Int.fdiv (IntKind.wrap .u64 (IntKind.wrap .i64 (st.1 + st.2))) (2 ^ min (Int.toNat 1) (IntKind.bits .u64)))) : Option (Int × Int)) fun w1 =>
  some (.inl (w1.1, w1.2))
  else none
  else
  some (.inr st.1)
noncomputable def bsearch (x : List α) (target : τ) (cmp : α → τ → Option Int) : Option (Int × Bool) :=
  bd (Loop (bsL x target cmp) (0, (x.length : Int))) fun w =>
  bd (
    if w < (x.length : Int) then
    ix x w fun y1 =>
    bd (cmp y1 target) fun rA1 =>
    some (w, decide (rA1 = 0))
    else
    some (w, false) : Option (Int × Bool)) fun w2 =>
  some (w2.1, w2.2)
/-- a search in what is in order -/
theorem bsearch_eq {L : List α} {s : Int} {cmp : α → Int → Option Int} (hs : IncK key L) (hl : L.length < 2 ^ 60) (hc : ∀ a, cmp a s = some (cmp3 (key a) s)) : bsearch L s cmp = some ((lbK key L s : Int), hasK key L s) := by
  obtain ⟨hb1, hb2⟩ := hs.lb s
  have hle := lbK_le (key := key) L s
  have hloop : Loop (bsL L s cmp) (0, (L.length : Int)) = some (lbK key L s : Int) := by
    refine Gives.eq (Gives.loop (fun st => ∃ i j : Nat, st = ((i : Int), (j : Int)) ∧ i ≤ lbK key L s ∧ lbK key L s ≤ j ∧ j ≤ L.length) (fun st => (st.2 - st.1).toNat) ⟨0, L.length, rfl, Nat.zero_le _, hle, Nat.le_refl _⟩ ?_)
    rintro st ⟨i, j, rfl, hi, hj, hjl⟩
    unfold bsL
    by_cases hlt : i < j
    · have hm : (i + j) / 2 < L.length := by omega
      simp only [show ((i : Int) < (j : Int)) by omega, if_true, show ((0 : Int) ≤ 1) by decide, mid_eq (by omega : i + j < 2 ^ 62), ix_nat hm, hc, bd_s]
      by_cases hlb : (i + j) / 2 < lbK key L s
      · have hk := hb1 _ hm hlb
        have : cmp3 (key L[(i + j) / 2]) s = -1 := by simp [cmp3, hk]
        simp only [this, show ((-1 : Int) < 0) by decide, if_true, bd_s]
        rw [wrap64 (by omega) (by omega)]
        exact .mk ⟨⟨(i + j) / 2 + 1, j, by simp, by omega, hj, hjl⟩, by omega⟩
      · have hk := hb2 _ hm (by omega)
        have : ¬ cmp3 (key L[(i + j) / 2]) s < 0 := by unfold cmp3; rw [if_neg (by omega)]; split <;> omega
        simp only [this, if_false, bd_s]
        exact .mk ⟨⟨i, (i + j) / 2, rfl, hi, by omega, by omega⟩, by omega⟩
    · simp only [show ¬ ((i : Int) < (j : Int)) by omega, if_false]
      exact .mk (by show (i : Int) = (lbK key L s : Int); omega)
  unfold bsearch
  rw [hloop]
  simp only [bd_s]
  by_cases hlt : lbK key L s < L.length
  · simp only [show ((lbK key L s : Int) < (L.length : Int)) by omega, if_true, ix_nat hlt, hc, bd_s]
    have h3 := hb2 _ hlt (Nat.le_refl _)
    have : decide (cmp3 (key L[lbK key L s]) s = 0) = hasK key L s := by
      unfold cmp3
      rw [if_neg (by omega)]
      by_cases he : key L[lbK key L s] = s
      · rw [if_neg (by omega), decide_eq_true rfl, (hs.has s).2 ⟨hlt, he⟩]
      · rw [if_pos (by omega), decide_eq_false (by decide)]
        symm; rw [Bool.eq_false_iff]
        intro hh
        obtain ⟨_, hh⟩ := (hs.has s).1 hh
        exact he hh
    rw [this]
  · simp only [show ¬ ((lbK key L s : Int) < (L.length : Int)) by omega, if_false, bd_s]
    have : hasK key L s = false := by
      rw [Bool.eq_false_iff]
      intro hh
      obtain ⟨hh, _⟩ := (hs.has s).1 hh
      exact hlt hh
    rw [this]
/-- a list with one more put in its place -/
def insK (key : α → Int) (L : List α) (a : α) : List α := L.take (lbK key L (key a)) ++ [a] ++ L.drop (lbK key L (key a))
/-- where something is like an equality, looked for place by place -/
noncomputable def eqL [DecidableEq α] (a b : List α) (st : Int) : Option (Int ⊕ (Unit ⊕ Bool)) :=
  if st < (a.length : Int) then
  ix a st fun y =>
  ix b st fun y1 =>
  if !decide (y = y1) then
  some (.inr (.inr false))
  else
  some (.inl (IntKind.wrap .i64 (st + 1)))
  else
  some (.inr (.inl ()))
end
section
variable {α ρ : Type}
theorem take_succ {L : List α} {k : Nat} (hk : k < L.length) : L.take (k + 1) = L.take k ++ [L[k]] := (List.take_append_getElem hk).symm
/-- a loop that looks whether all is well, and leaves at the first that is not -/
theorem Loop_all {body : Int → Option (Int ⊕ (Unit ⊕ ρ))} (n : Nat) (p : Nat → Prop) (c : ρ) (h : ∀ k, k < n → (∀ j, j < k → p j) → (p k → body (k : Int) = some (.inl ((k + 1 : Nat) : Int))) ∧ (¬ p k → body (k : Int) = some (.inr (.inr c))))
    (he : body (n : Int) = some (.inr (.inl ()))) : Gives (Loop body 0) fun r => (r = .inl () ∧ ∀ k, k < n → p k) ∨ (r = .inr c ∧ ∃ k, k < n ∧ ¬ p k) := by
  refine Gives.count (fun k => (k : Int)) n (fun k => ∀ j, j < k → p j) rfl (fun j hj => by omega) (fun k hk hp => ?_) (fun hp => ?_)
  · by_cases hpk : p k
    · refine .of ((h k hk hp).1 hpk) ⟨rfl, fun j hj => ?_⟩
      by_cases hjk : j = k
      · subst hjk; exact hpk
      · exact hp j (by omega)
    · exact .of ((h k hk hp).2 hpk) (.inr ⟨rfl, k, hk, hpk⟩)
  · exact .of he (.inl ⟨rfl, hp⟩)
/-- a loop that looks whether something is there -/
theorem Loop_any {ρ' : Type} {body : Bool × Int → Option ((Bool × Int) ⊕ ρ')} (n : Nat) (p : Nat → Bool) (fin : Bool → ρ') (h : ∀ k b, k < n → body (b, (k : Int)) = some (.inl (b || p k, ((k + 1 : Nat) : Int)))) (he : ∀ b, body (b, (n : Int)) = some (.inr (fin b))) : Loop body (false, 0) = some (fin ((List.range n).any p)) := by
  refine Gives.eq (Gives.count (fun k => ((List.range k).any p, (k : Int))) n (fun _ => True) (by simp) trivial (fun k hk _ => ?_) (fun _ => ?_))
  · refine .of (h k _ hk) ⟨?_, trivial⟩
    rw [List.range_succ, List.any_append]; simp
  · exact .of (he _) rfl
theorem any_range {L : List α} {q : α → Bool} : (List.range L.length).any (fun k => (L[k]?).any q) = L.any q := by
  rw [Bool.eq_iff_iff, List.any_eq_true, List.any_eq_true]
  constructor
  · rintro ⟨k, hk, h⟩
    rw [List.mem_range] at hk
    rw [List.getElem?_eq_getElem hk] at h
    exact ⟨_, List.getElem_mem hk, h⟩
  · rintro ⟨a, ha, h⟩
    obtain ⟨k, hk, rfl⟩ := List.mem_iff_getElem.1 ha
    refine ⟨k, List.mem_range.2 hk, ?_⟩
    rw [List.getElem?_eq_getElem hk]; exact h
theorem Loop_same [DecidableEq α] {a b : List α} {body : Int → Option (Int ⊕ (Unit ⊕ Bool))} (hl : a.length = b.length) (h : ∀ k (ha : k < a.length) (hb : k < b.length), body (k : Int) = some (if a[k] = b[k] then .inl ((k + 1 : Nat) : Int) else .inr (.inr false)))
    (he : body (a.length : Int) = some (.inr (.inl ()))) : Loop body 0 = some (if a = b then .inl () else .inr false) := by
  obtain ⟨r, e, hr⟩ := Loop_all (body := body) a.length (fun k => a[k]? = b[k]?) false (fun k hk _ => by
    have hkb : k < b.length := by omega
    rw [List.getElem?_eq_getElem hk, List.getElem?_eq_getElem hkb, h k hk hkb]
    constructor
    · intro hh; rw [if_pos (by simpa using hh)]
    · intro hh; rw [if_neg (by simpa using hh)]) he
  rw [e]
  rcases hr with ⟨rfl, hall⟩ | ⟨rfl, k, hk, hne⟩
  · rw [if_pos]
    refine List.ext_getElem? fun k => ?_
    by_cases hk : k < a.length
    · exact hall k hk
    · rw [List.getElem?_eq_none (by omega), List.getElem?_eq_none (by omega)]
  · rw [if_neg]
    intro hab; subst hab; exact hne rfl
end
end Dn
/-
  Runs with a bound on their rounds. Conditions: none.
-/
set_option linter.unusedVariables false
namespace Dn
open Go
def LoopC {σ R : Type} (n : Nat) (body : σ → Option (Sum σ R)) (s : σ) : Option R := iter body n s
/-- what the one gives, the other gives -/
def Le {A : Type} (x y : Option A) : Prop := ∀ a, x = some a → y = some a
section
variable {A B σ ρ α : Type}
theorem Le.rfl' (x : Option A) : Le x x := fun _ h => h
theorem Le.bd {x x' : Option A} {K K' : A → Option B} (h : Le x x') (hk : ∀ a, Le (K a) (K' a)) : Le (bd x K) (bd x' K') := by
  intro b hb
  cases hx : x with
  | none => rw [hx] at hb; cases hb
  | some a => rw [hx] at hb; rw [h a hx]; exact hk a b hb
theorem Le.ite {c : Prop} [Decidable c] {x y x' y' : Option A} (h1 : Le x x') (h2 : Le y y') : Le (if c then x else y) (if c then x' else y') := by
  split
  · exact h1
  · exact h2
theorem Le.ix {l : List α} {i : Int} {K K' : α → Option A} (h : ∀ a, Le (K a) (K' a)) : Le (ix l i K) (ix l i K') := by
  unfold Dn.ix
  split
  · exact h _
  · exact Le.rfl' _
theorem Le.iter {K K' : σ → Option (Sum σ ρ)} (h : ∀ s, Le (K s) (K' s)) (n : Nat) (s : σ) : Le (iter K n s) (iter K' n s) := by
  induction n generalizing s with
  | zero => exact Le.rfl' _
  | succ n ih =>
    intro r hr
    simp only [Dn.iter] at hr ⊢
    cases hk : K s with
    | none => rw [hk] at hr; cases hr
    | some x =>
      rw [hk] at hr
      rw [h s x hk]
      cases x with
      | inl s' => exact ih s' r hr
      | inr r' => exact hr
theorem Le.loop {n : Nat} {K K' : σ → Option (Sum σ ρ)} {s : σ} (h : ∀ s, Le (K s) (K' s)) : Le (LoopC n K s) (Loop K' s) := fun r hr => Loop_of_iter (Le.iter h n s r hr)
theorem Le.sum {P Q : Type} {x : P ⊕ Q} {f f' : P → Option A} {g g' : Q → Option A} (h1 : ∀ p, Le (f p) (f' p)) (h2 : ∀ q, Le (g q) (g' q)) : Le (match x with | .inl p => f p | .inr q => g q) (match x with | .inl p => f' p | .inr q => g' q) := by
  cases x
  · exact h1 _
  · exact h2 _
end
theorem Le.delP {α : Type} {p q : α → Option Bool} (h : ∀ x, Le (p x) (q x)) : ∀ L : List α, Le (tDelP p L) (tDelP q L)
  | [] => Le.rfl' _
  | x :: xs => Le.bd (h x) fun b => Le.bd (Le.delP h xs) fun _ => Le.rfl' _
theorem Le.delC {α σ : Type} {p q : α → σ → Option (Bool × σ)} (h : ∀ x s, Le (p x s) (q x s)) : ∀ (s : σ) (L : List α), Le (tDelC p s L) (tDelC q s L)
  | s, [] => Le.rfl' _
  | s, x :: xs => Le.bd (h x s) fun b => Le.bd (Le.delC h b.2 xs) fun _ => Le.rfl' _
end Dn
/-
  Maps as lists of entries: what is there behind a store. Conditions: none.
-/
set_option linter.unusedVariables false
namespace Dn
open Go
def mkeys (es : List MV) : List (List MV) := es.map mkey
theorem midx_le (es : List MV) (ks : List MV) : midx es ks ≤ es.length := by
  rw [midx_fidx]; have := fidx_le (es.map mkey) ks; simpa using this
theorem fidx_congr_append {kss : List (List MV)} {ks ks' : List MV} (h : mvsEq ks' ks = false) : fidx (kss ++ [ks']) ks = if fidx kss ks < kss.length then fidx kss ks else kss.length + 1 := by
  induction kss with
  | nil => simp [fidx, h]
  | cons q r ih =>
    simp only [List.cons_append, fidx, List.length_cons]
    rcases Bool.eq_false_or_eq_true (mvsEq q ks) with hm | hm
    · simp [hm]
    · have := fidx_le r ks
      simp only [hm, cond_false]
      by_cases hl : fidx r ks < r.length
      · simp [hl, ih]
      · simp [hl, ih]
theorem fidx_append_self {kss : List (List MV)} {ks : List MV} (hr : mvsEq ks ks = true) (h : fidx kss ks = kss.length) : fidx (kss ++ [ks]) ks = kss.length := by
  induction kss with
  | nil => simp [fidx, hr]
  | cons q r ih =>
    simp only [List.cons_append, fidx, List.length_cons] at h ⊢
    cases hm : mvsEq q ks with
    | true => simp [hm] at h
    | false =>
      simp only [hm, cond_false] at h ⊢
      rw [ih (by omega)]
theorem fidx_hit {kss : List (List MV)} {ks : List MV} (h : fidx kss ks < kss.length) : kss[fidx kss ks]? = some ks := by
  obtain ⟨q, hq⟩ : ∃ q, kss[fidx kss ks]? = some q := ⟨_, List.getElem?_eq_getElem h⟩
  rw [hq, fidx_get hq]
theorem mkey_tup (ks : List MV) (v : MV) : mkey (.tup [.agg ks, v]) = ks := rfl
/-- a map with something written -/
def mput (es ks : List MV) (z v : MV) : List MV := mset (ment es ks z) (midx es ks) v
theorem mput_keys {es ks : List MV} {z v : MV} : (mput es ks z v).map mkey = if midx es ks < es.length then es.map mkey else es.map mkey ++ [ks] := by
  have hle := midx_le es ks
  unfold mput ment
  rw [nbeq]
  by_cases h : midx es ks = es.length
  · simp only [h, decide_true, cond_true]
    unfold mset
    simp [mkey_tup]
  · have hlt : midx es ks < es.length := by omega
    simp only [h, decide_false, cond_false, hlt, if_true]
    unfold mset
    rw [List.getElem?_eq_getElem hlt]
    simp only
    apply List.ext_getElem?
    intro i
    rw [List.getElem?_map, List.getElem?_map, List.getElem?_set]
    by_cases hi : midx es ks = i
    · subst hi; simp [hlt, mkey_tup]
    · simp [hi]
theorem mput_at {es ks : List MV} {z v : MV} : (mput es ks z v)[midx es ks]? = some (.tup [.agg ks, v]) := by
  have hle := midx_le es ks
  unfold mput ment
  rw [nbeq]
  by_cases h : midx es ks = es.length
  · simp only [h, decide_true, cond_true]
    unfold mset
    simp [mkey_tup]
  · have hlt : midx es ks < es.length := by omega
    simp only [h, decide_false, cond_false]
    unfold mset
    rw [List.getElem?_eq_getElem hlt]
    have hk : mkey es[midx es ks] = ks := by
      have h1 : (es.map mkey)[fidx (es.map mkey) ks]? = some (mkey es[midx es ks]) := by
        rw [← midx_fidx, List.getElem?_map, List.getElem?_eq_getElem hlt]; rfl
      exact fidx_get h1
    simp [hlt, hk]
theorem mput_other {es ks : List MV} {z v : MV} {i : Nat} (hi : i < es.length) (hne : i ≠ midx es ks) : (mput es ks z v)[i]? = es[i]? := by
  have hle := midx_le es ks
  unfold mput ment
  rw [nbeq]
  by_cases h : midx es ks = es.length
  · simp only [h, decide_true, cond_true]
    unfold mset
    simp only [List.getElem?_append_right (Nat.le_refl _), Nat.sub_self, List.getElem?_cons_zero]
    rw [List.getElem?_set_ne (by omega), List.getElem?_append_left hi]
  · have hlt : midx es ks < es.length := by omega
    simp only [h, decide_false, cond_false]
    unfold mset
    rw [List.getElem?_eq_getElem hlt]
    simp only
    rw [List.getElem?_set_ne (fun e => hne e.symm)]
theorem mput_len {es ks : List MV} {z v : MV} : (mput es ks z v).length = if midx es ks < es.length then es.length else es.length + 1 := by
  have h : ((mput es ks z v).map mkey).length = _ := congrArg List.length mput_keys
  rw [List.length_map] at h
  rw [h]; split <;> simp
/-- what a key has -/
def mget (es ks : List MV) : Option MV := (es[midx es ks]?).map mval
theorem mgetB_eq (es ks : List MV) : mgetB es ks = match mget es ks with | some v => asB v | none => false := by
  unfold mgetB mget; cases es[midx es ks]? <;> rfl
theorem mget_put_same {es ks : List MV} {z v : MV} (hr : mvsEq ks ks = true) : mget (mput es ks z v) ks = some v := by
  have hle := midx_le es ks
  have : midx (mput es ks z v) ks = midx es ks := by
    rw [midx_fidx, mput_keys, midx_fidx]
    split
    · rfl
    · rename_i h
      have h1 := fidx_le (es.map mkey) ks
      simp only [List.length_map] at h1 ⊢
      have h2 : fidx (es.map mkey) ks = (es.map mkey).length := by simp; omega
      rw [fidx_append_self hr h2, h2]
  unfold mget
  rw [this, mput_at]; rfl
theorem mget_put_other {es ks ks' : List MV} {z v : MV} (hne : mvsEq ks ks' = false) : mget (mput es ks z v) ks' = mget es ks' := by
  unfold mget
  have hle' := midx_le es ks'
  have hle := midx_le es ks
  have hix : midx (mput es ks z v) ks' = if midx es ks < es.length then midx es ks' else if midx es ks' < es.length then midx es ks' else es.length + 1 := by
    rw [midx_fidx, mput_keys]
    split
    · rw [midx_fidx]
    · rw [fidx_congr_append hne, ← midx_fidx]; simp
  by_cases hlt : midx es ks' < es.length
  · have hm : midx (mput es ks z v) ks' = midx es ks' := by rw [hix]; simp [hlt]
    have hne2 : midx es ks' ≠ midx es ks := by
      intro he
      have h1 := fidx_hit (kss := es.map mkey) (ks := ks') (by rw [← midx_fidx]; simpa using hlt)
      have h2 := fidx_hit (kss := es.map mkey) (ks := ks) (by rw [← midx_fidx, ← he]; simpa using hlt)
      rw [← midx_fidx, he, midx_fidx, h2] at h1
      cases h1
      have hq : mvsEq ks ks = true := by
        have := hlt
        rw [he] at this
        -- the entry is found by its key
        have h3 : ∀ (l : List (List MV)), fidx l ks < l.length → ∃ q, mvsEq q ks = true := by
          intro l
          induction l with
          | nil => intro h; simp [fidx] at h
          | cons q r ih =>
            intro h
            simp only [fidx] at h
            cases hm : mvsEq q ks with
            | true => exact ⟨q, hm⟩
            | false => simp only [hm, cond_false, List.length_cons] at h; exact ih (by omega)
        obtain ⟨q, hq⟩ := h3 (es.map mkey) (by rw [← midx_fidx]; simpa using this)
        have := mvsEq_of hq
        subst this
        exact hq
      rw [hq] at hne; cases hne
    rw [hm, mput_other hlt hne2]
  · have hnone : es[midx es ks']? = none := by rw [List.getElem?_eq_none_iff]; omega
    rw [hnone]
    have hlen := mput_len (es := es) (ks := ks) (z := z) (v := v)
    have : (mput es ks z v)[midx (mput es ks z v) ks']? = none := by
      rw [List.getElem?_eq_none_iff, hix, hlen]
      repeat' split
      all_goals omega
    rw [this]
end Dn
/-
  A state in which variables of packages have given data. Conditions: none.
-/
set_option linter.unusedVariables false
set_option linter.unusedSimpArgs false
namespace Dn
open Go
def cellsD : Nat → DataW Unit → List Value
  | n + 1, .agg ds => ds.flatMap (cellsD n)
  | _, .lit (.int k v) => [.int k v]
  | _, _ => []
def setCellsO (cs : Array Value) : Obj → Obj
  | .cells _ t z => .cells cs t z
  | o => o
def laidHeap (P : Program) : List (String × DataW Unit) → Array Obj → Array Obj
  | [], h => h
  | x :: r, h => match P.globalNamed x.1 with
    | some g => laidHeap P r (h.modify g (setCellsO (cellsD 4 x.2).toArray))
    | none => laidHeap P r h
noncomputable def laidW (P : Program) (l : List (String × DataW Unit)) (os : Os) (args : Array Value) : World :=
  { World.holding P os ⟨#[], args, []⟩ with heap := laidHeap P l (World.holding P os ⟨#[], args, []⟩).heap }
theorem and_true_of {a b : Bool} (h1 : a = true) (h2 : b = true) : (a && b) = true := by rw [h1, h2]; rfl
/-! ### a program whose head says where it is cut -/
def cutW : List Char := [99, 117, 116].map Char.ofNat
theorem hd_gc : (cutW == "gc".toList) = false := by kernel_rfl
theorem hd_spec : (cutW == "spec".toList) = false := by kernel_rfl
theorem hd_cut : (cutW == "cut".toList) = true := by kernel_rfl
theorem hd_carried : (cutW == "carried".toList) = false := by kernel_rfl
section
variable {P : Program} {L : List (List Char)} {ns : List Nat}
theorem head_list (h : P.initOrder = String.ofList (ns.map Char.ofNat)) : P.initOrder.toList = ns.map Char.ofNat := by rw [h, String.toList_ofList]
theorem main_of {h s : List Char} (e : wordsSigns P.initOrder.toList = h :: s :: L) (h1 : isSumSigns s = true) (h2 : (h == "harness".toList) = true) : P.mainIs = some (true, s) := by
  unfold Program.mainIs
  rw [e]
  simp only [h1, h2, Bool.not_true, Bool.false_eq_true, if_false, if_true]
theorem make_of (e : behindMainWord (wordsSigns P.initOrder.toList) = cutW :: L) : P.make = some .cut := by
  unfold Program.make
  rw [e]
  simp only [hd_gc, hd_spec, hd_cut, Bool.or_false, Bool.false_eq_true, if_false, Bool.true_or, if_true]
theorem may_of (e : behindMainWord (wordsSigns P.initOrder.toList) = cutW :: L) (h1 : (stripLifts liftWords (cutW :: L)).1 = []) (h2 : ((stripLifts liftWords (cutW :: L)).2.head? == some "cut".toList) = true)
    (h3 : P.doorFits [] = true) (h4 : P.laysLater = false) (h5 : P.bearsReflect = false) : P.mayEnter = true := by
  unfold Program.mayEnter
  rw [e]
  simp only [h1, h2, h3, h4, h5, List.contains_nil, Bool.false_or, Bool.not_false, Bool.true_and, Bool.and_true, Bool.or_true]
theorem lifts_of (e : behindMainWord (wordsSigns P.initOrder.toList) = cutW :: L) (h1 : (stripLifts liftWords (cutW :: L)).1 = []) : P.liftsFinal = false := by
  unfold Program.liftsFinal Program.headLifts
  rw [e]
  have h0 : ((cutW :: L).head? == some "carried".toList) = false := by
    simp only [List.head?_cons]
    have := hd_carried
    simpa using this
  simp only [h0, h1, Bool.false_and, Bool.false_or]
  split <;> rfl
theorem make_eq {c : OpenClaim} (h : P.make = some .cut) (hc : c.make = .cut) : (P.make == some c.make) = true := by rw [h, hc]; rfl
theorem lifts_eq {c : OpenClaim} (h : P.liftsFinal = false) (hc : c.lifted = false) : (c.lifted == P.liftsFinal) = true := by rw [h, hc]; rfl
end
end Dn
