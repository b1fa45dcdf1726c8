import Derived.Test.YteakdlhhamgfbaaDoorDnB
import Derived.Laws.Sem
import Derived.ProofKit
import Derived.OpenShut
import Derived.Laws.CopyRow
import Derived.Lib.AppendZerosOnto
import Derived.Lib.Overlaps
import Derived.Laws.Externs
/-
  Whole functions. Conditions: none.
-/
set_option linter.unusedSimpArgs false
set_option linter.unusedVariables false
namespace Dn
open Go

section
variable {P : Program} {c : Ctx} {Z Zb Zi : Zone} {e e' e3 : Env} {st st' st3 B : St} {a a' : Act} {w w' : World} {R : Type} {r : R} {Q : Exit → Act → World → Prop} {o : Oper}

/-- parameters as slots -/
theorem entryK_spec {ts : List Nat} : ∀ {n : Nat} {vs : List Value} {ms : List MV} {K : Fr → List MV → Option R}, ArgReps e.key e.φ vs ms → entryK c ts n ms K = some r →
    ∃ fr rest vs1 vs2, K fr rest = some r ∧ vs = vs1 ++ vs2 ∧ vs1.length = ts.length ∧ ArgReps e.key e.φ vs2 rest ∧ keysOf fr = List.range' n ts.length ∧
      (∀ p ∈ fr, isPtr p.2 = false ∧ isBox p.2 = false ∧ ∃ v, vs1[p.1 - n]? = some v ∧ SlotRep e v p.2) := by
  induction ts with
  | nil => intro n vs ms K h hK; exact ⟨[], ms, [], vs, hK, rfl, rfl, h, rfl, by simp⟩
  | cons t ts ih =>
    intro n vs ms K h hK
    simp only [entryK] at hK
    cases hI : c.tv t with
    | none => simp [hI] at hK
    | some I =>
      simp only [hI] at hK
      cases ms with
      | nil => simp [gC] at hK
      | cons m ms =>
        simp only [gC] at hK
        obtain ⟨v, u, rfl, h1, h2⟩ := h
        obtain ⟨s, g1, g2, hK⟩ := openV_spec h1 hK
        obtain ⟨fr, rest, vs1, vs2, hK, rfl, q1, q2, q3, q4⟩ := ih h2 hK
        refine ⟨(n, s) :: fr, rest, v :: vs1, vs2, hK, rfl, by simp [q1], q2, ?_, ?_⟩
        · simp only [keysOf, List.map_cons, List.length_cons] at q3 ⊢
          rw [q3, List.range'_succ]
        · intro p hp
          rcases List.mem_cons.1 hp with rfl | hp
          · refine ⟨?_, ?_, v, by simp, g1⟩
            · cases s <;> simp [pureS] at g2 <;> rfl
            · cases s <;> simp [pureS] at g2 <;> rfl
          · obtain ⟨k1, k2, v', k3, k4⟩ := q4 p hp
            refine ⟨k1, k2, v', ?_, k4⟩
            have hk : p.1 ∈ keysOf fr := List.mem_map.2 ⟨p, hp, rfl⟩
            rw [q3, List.mem_range'] at hk
            obtain ⟨i, hi, he⟩ := hk
            have : p.1 - n = (p.1 - (n + 1)) + 1 := by omega
            rw [this]; simpa using k3
theorem capK_spec {kss : List (List Kd)} : ∀ {n : Nat} {vs : List Value} {ms : List MV} {K : Fr → Option R}, ArgReps e.key e.φ vs ms → capK kss n ms K = some r →
    ∃ fr, K fr = some r ∧ vs.length = kss.length ∧ keysOf fr = List.range' n kss.length ∧
      (∀ p ∈ fr, isPtr p.2 = false ∧ (∀ cs, p.2 ≠ .box cs) ∧ ∃ v, vs[p.1 - n]? = some v ∧ SlotRep e v p.2) := by
  induction kss with
  | nil =>
    intro n vs ms K h hK
    cases ms with
    | nil => cases h; exact ⟨[], hK, rfl, rfl, by simp⟩
    | cons m ms => simp [capK, gN] at hK
  | cons ks kss ih =>
    intro n vs ms K h hK
    cases ms with
    | nil => simp [capK, gC] at hK
    | cons m ms =>
      simp only [capK, gC] at hK
      obtain ⟨v, u, rfl, h1, h2⟩ := h
      unfold gP at hK
      split at hK
      · rename_i cs
        obtain ⟨_, h1⟩ := h1
        obtain ⟨blk, off, us, hv, hr, hφ⟩ : ∃ blk off us, v = .pointer (some ⟨blk, off, none⟩) ∧ RepL e.key e.φ us cs ∧ ∀ j, j < us.length → e.φ blk (off + j) = us[j]? := by
          generalize hvs : [v] = ws at h1
          cases h1 with
          | rp blk off us _ hr hφ => exact ⟨blk, off, us, by simpa using hvs, hr, hφ⟩
        obtain ⟨ls, hls, hK⟩ := oLeaves_spec (e := e) (vs := us) hK
        obtain ⟨fr, hK, q1, q3, q4⟩ := ih h2 hK
        refine ⟨(n, .fbox ls) :: fr, hK, by simp [q1], ?_, ?_⟩
        · simp only [keysOf, List.map_cons, List.length_cons] at q3 ⊢
          rw [q3, List.range'_succ]
        · intro p hp
          rcases List.mem_cons.1 hp with rfl | hp
          · refine ⟨rfl, fun cs he => (by cases he), v, by simp, ?_⟩
            simp only [SlotRep]
            exact ⟨blk, off, us, hv, hls.rep hr, hls.pur, hφ⟩
          · obtain ⟨k1, k2, v', k3, k4⟩ := q4 p hp
            refine ⟨k1, k2, v', ?_, k4⟩
            have hk : p.1 ∈ keysOf fr := List.mem_map.2 ⟨p, hp, rfl⟩
            rw [q3, List.mem_range'] at hk
            obtain ⟨i, hi, he⟩ := hk
            have : p.1 - n = (p.1 - (n + 1)) + 1 := by omega
            rw [this]; simpa using k3
      · simp at hK
theorem fget_mem {r : Fr} {t : Nat} (ht : t ∈ keysOf r) : (t, fget r t) ∈ r := by
  induction r with
  | nil => simp [keysOf] at ht
  | cons p r ih =>
    obtain ⟨k, x⟩ := p
    simp only [fget, nbeq]
    by_cases h : k = t
    · simp [h]
    · simp only [h, decide_false, cond_false]
      simp only [keysOf, List.map_cons, List.mem_cons] at ht
      exact List.mem_cons_of_mem _ (ih (ht.resolve_left (fun e => h e.symm)))

def resOne (tmps : Array Value) : ResultVar → Sem Value
  | .tmp t => pure (tmps.getD t undef)
  | .cell a t => do loadVar t (← asAddr (tmps.getD a undef))
theorem resK_spec {rs : List ResultVar} (hT : TIok P c.ti) : ∀ {e : Env} {st : St} {K : List MV → Option R}, Sim c Z e st a w → resK c st none rs K = some r →
    ∃ e' st' ms vs, Sim c Z e' st' a w ∧ Ext Z.In e e' ∧ (rs.mapM (resOne a.tmps)).run P w = .ok vs w ∧ ArgReps e'.key e'.φ vs ms ∧ K ms = some r := by
  induction rs with
  | nil => intro e st K h hK; exact ⟨e, st, [], [], h, .refl _ _, by simp, rfl, hK⟩
  | cons x rs ih =>
    intro e st K h hK
    have go : ∀ (s : Slot) (v : Value), SlotRep e v s → (resOne a.tmps x).run P w = .ok v w → (shSlot st s fun m st => resK c st none rs fun ms => K (m :: ms)) = some r →
        ∃ e' st' ms vs, Sim c Z e' st' a w ∧ Ext Z.In e e' ∧ ((x :: rs).mapM (resOne a.tmps)).run P w = .ok vs w ∧ ArgReps e'.key e'.φ vs ms ∧ K ms = some r := by
      intro s v hs hrun hK
      obtain ⟨e1, st1, m, h1, h2, h3, h4, hK⟩ := shSlot_spec h hs hK
      obtain ⟨e2, st2, ms, vs, q1, q2, q3, q4, hK⟩ := ih h1 hK
      refine ⟨e2, st2, m :: ms, v :: vs, q1, h2.trans q2, ?_, ⟨v, vs, rfl, ?_, q4⟩, hK⟩
      · simp [List.mapM_cons, hrun, q3]
      · have := h4.mono q2.on.φ
        rw [← q2.on.key] at this; exact this
    simp only [resK] at hK
    cases x with
    | tmp t =>
      simp only at hK
      have hs := h.slot t
      by_cases hb : ∃ cs, fget st.fr t = .box cs
      · obtain ⟨cs, hb⟩ := hb
        rw [hb] at hK
        simp [shSlot] at hK
      · refine go (fget st.fr t) (a.tmps.getD t undef) ?_ rfl hK
        generalize fget st.fr t = s at hs hb
        cases s <;> first | exact hs | exact absurd ⟨_, rfl⟩ hb
    | cell b t =>
      simp only at hK
      have hs := h.slot b
      split at hK
      · rename_i I cs hI hb
        obtain ⟨hI1, hI2⟩ := tv_some hI
        rw [hb] at hs
        obtain ⟨hv, hbx⟩ := hs
        have hm0 : isMp cs = false := by cases hq : isMp cs <;> simp_all
        simp only [hm0, cond_false] at hK
        rw [bptr_p hm0] at hv
        obtain ⟨arr, T, hheap, hlv⟩ := hbx.cells hm0
        have hm : w.rangeAt (e.B b) 0 arr.toList := by
          intro j v hj
          rw [Nat.zero_add, cell_of hheap]; simpa using hj
        obtain ⟨v, s, h1, h2, h3, h4⟩ := ldLeaves_run (P := P) (st := st) (s := .skip) (hT t I hI1) hI2 hlv hm hK
        refine go s v h2 ?_ h4
        simpa [resOne, hv, asAddr, Instr.loadAt, Instr.sureAddr] using h1 w hm
      · simp at hK

/-- a function does what its abstract run says -/
theorem body_ok {f : FuncId} {fn : Func} {caps : List (List Kd)} {ms : List MV} {m : MV} (hG : Good P c) (hD : Draws P c) (hf : P.funcs[f]? = some fn) (hname : (fn.name == "runtime.NumGoroutine") = false)
    (hn : c.n = fn.ntmps) (hsz : fn.params.size + caps.length ≤ fn.ntmps) (hg : c.gives (c.key f) = false) (hb : bodyK c caps none fn ms = some m) : Sound1 P c f ms m := by
  intro φ w Z vs hz hargs himm
  simp only [ArgsIn, hg, Bool.false_eq_true, if_false] at hargs
  unfold bodyK at hb
  cases hbody : fn.body with
  | none => simp [hbody] at hb
  | some b =>
    simp only [hbody] at hb
    have hrun : (callFunc f vs.toArray).run P w = .ok (.enter f vs.toArray) w := by
      have hn2 : ¬ fn.name = "runtime.NumGoroutine" := by simpa using hname
      simp [callFunc, hf, hn2, hbody]
    unfold CallOK
    rw [hrun]
    refine calls_of_wp hf hbody ?_
    let e : Env := env0 c.key φ
    have hargs : ArgReps e.key e.φ vs ms := hargs
    obtain ⟨fr, rest, vs1, vs2, hb, rfl, l1, a2, k1, s1⟩ := entryK_spec hargs hb
    obtain ⟨fr', hb, l2, k2, s2⟩ := capK_spec a2 hb
    simp only [app_eq] at hb
    have htn : (vs1 ++ vs2).toArray.size = fn.params.size + caps.length := by simp [l1, l2]
    let a : Act := { tmps := (vs1 ++ vs2).toArray ++ Array.replicate (fn.ntmps - (vs1 ++ vs2).toArray.size) undef, defers := [] }
    have hat : ∀ (t : Nat) (v : Value), (vs1 ++ vs2)[t]? = some v → a.tmps.getD t undef = v := by
      intro t v ht
      have hlt : t < (vs1 ++ vs2).length := (List.getElem?_eq_some_iff.1 ht).1
      rw [Array.getD_eq_getD_getElem?]
      show (((vs1 ++ vs2).toArray ++ Array.replicate _ undef)[t]?).getD undef = v
      rw [Array.getElem?_append_left (by simpa using hlt)]
      simp only [List.getElem?_toArray]
      rw [ht]; rfl
    have hslot : ∀ t, isPtr (fget (fr ++ fr') t) = false ∧ (∀ cs, fget (fr ++ fr') t ≠ .box cs) ∧ SlotRep e (a.tmps.getD t undef) (fget (fr ++ fr') t) := by
      intro t
      rw [fget_append]
      by_cases h1 : t ∈ keysOf fr
      · simp only [h1, if_true]
        obtain ⟨g1, g2, v, g3, g4⟩ := s1 _ (fget_mem h1)
        refine ⟨g1, ?_, ?_⟩
        · intro cs hc; simp only [hc, isBox] at g2; cases g2
        · rw [hat t v ?_]; exact g4
          have hlt : t < vs1.length := (List.getElem?_eq_some_iff.1 g3).1
          rw [List.getElem?_append_left hlt]; exact g3
      · simp only [h1, if_false]
        by_cases h2 : t ∈ keysOf fr'
        · obtain ⟨g1, g2, v, g3, g4⟩ := s2 _ (fget_mem h2)
          refine ⟨g1, g2, ?_⟩
          rw [hat t v ?_]; exact g4
          have hk := h2
          rw [k2, List.mem_range'] at hk
          obtain ⟨i, hi, he⟩ := hk
          have hps : fn.params.size = vs1.length := by rw [l1]; simp
          rw [List.getElem?_append_right (by omega), ← hps]; exact g3
        · rw [fget_none _ _ h2]
          exact ⟨rfl, fun cs hc => (by cases hc), by simp [SlotRep]⟩
    have hnobox : ∀ t cs, fget (fr ++ fr') t = .box cs → False := fun t cs hc => (hslot t).2.1 cs hc
    have hsim : Sim c (Zone.plain Z) e ⟨[], [], fr ++ fr', []⟩ a w := by
      refine ⟨⟨rfl, rfl, rfl, fun t ht => by simp [Zone.plain] at ht⟩, ?_, rfl, rfl, ?_, ?_, fun t => rootOK_of (hslot t).1, fun f o ho => by simp [oget] at ho, fun t t' cs cs' h1 => (hnobox t cs h1).elim,
        fun t cs f o h1 => (hnobox t cs h1).elim, fun f f' o o' k h1 => by simp [oget] at h1, himm, hz⟩
      · show ((vs1 ++ vs2).toArray ++ Array.replicate (fn.ntmps - (vs1 ++ vs2).toArray.size) undef).size = c.n
        rw [Array.size_append, Array.size_replicate, htn, hn]; omega
      · show (keysOf (fr ++ fr')).Nodup
        have : keysOf (fr ++ fr') = keysOf fr ++ keysOf fr' := by simp [keysOf]
        rw [this, k1, k2]
        have : List.range' 0 fn.params.toList.length ++ List.range' fn.params.size caps.length = List.range' 0 (fn.params.toList.length + caps.length) := by
          have := List.range'_append_1 (s := 0) (m := fn.params.toList.length) (n := caps.length)
          simpa using this
        rw [this]; exact List.nodup_range'
      · intro t
        obtain ⟨g1, g2, g3⟩ := hslot t
        show SlotAt _ e w t _ (fget (fr ++ fr') t)
        generalize fget (fr ++ fr') t = s at g1 g2 g3
        cases s <;> first | exact g3 | exact absurd rfl (g2 _)
    refine code_ok hG hD b hsim hb ?_
    intro n e' st' a' w' h' t' hK
    cases hle : Nat.ble n 1 with
    | false => simp [hle] at hK
    | true =>
      simp only [hle, cond_true] at hK
      obtain ⟨e2, st2, ns, us, q1, q2, q3, q4, hK⟩ := resK_spec (P := P) hG.ti h' hK
      have hres : (results fn a'.tmps).run P w' = .ok (if h : us.toArray.size = 1 then us.toArray[0] else .tuple us.toArray) w' := by
        have hm : (fn.results.mapM (resOne a'.tmps)).run P w' = .ok us.toArray w' := by
          rw [Array.mapM_eq_mapM_toList]
          simp [q3]
        have hm2 : results fn a'.tmps = (do let vs ← fn.results.mapM (resOne a'.tmps); pure (if h : vs.size = 1 then vs[0] else .tuple vs)) := by
          unfold results
          congr 1
        rw [hm2]
        simp [hm]
      have hpost : ∃ φ', Trans Z φ w φ' w' ∧ Imm φ' w' ∧ ResRep c Z φ' w' (c.key f) (if h : us.toArray.size = 1 then us.toArray[0] else .tuple us.toArray) m := by
        refine ⟨e2.φ, t'.trans q2.tr, q1.imm, ?_⟩
        have hk2 : e2.key = c.key := q1.key
        rw [hk2] at q4
        split at hK
        · rename_i m'
          cases hK
          obtain ⟨v, u, rfl, g1, g2⟩ := q4
          have g2 : u = [] := g2
          subst g2
          simp only [List.size_toArray, List.length_singleton, dite_true]
          cases m <;> first | exact g1 | exact absurd g1.1 (by simp [MV.one])
        · rename_i ns' hne
          cases hK
          have hne : us.toArray.size ≠ 1 := by
            intro h1
            cases us with
            | nil => simp at h1
            | cons v us =>
              cases us with
              | cons => simp at h1
              | nil =>
                cases ns with
                | nil => cases q4
                | cons m1 ns1 =>
                  obtain ⟨v', u', h2, g1, g2⟩ := q4
                  simp at h2
                  obtain ⟨rfl, rfl⟩ := h2
                  cases ns1 with
                  | nil => exact hne m1 rfl
                  | cons => obtain ⟨_, _, h3, _⟩ := g2; simp at h3
          rw [dif_neg hne]
          exact ⟨us.toArray, rfl, by simpa using q4⟩
      match n, hle with
      | 0, _ => exact ⟨h'.defers.1, _, hres, _, rfl, hpost⟩
      | 1, _ => exact ⟨h'.defers.1, _, hres, _, rfl, hpost⟩
      | n + 2, hle => simp [Nat.ble] at hle
end

end Dn
/-
  What arguments read as: values of their types. Conditions: none.
-/
set_option linter.unusedSimpArgs false
set_option linter.unusedVariables false
namespace Dn
open Go Go.WideShapes

/-- the memory as it is, all of it -/
def phOf (W : World) : Ph := fun b o => W.cell? ⟨b, o, none⟩
theorem imm_phOf (W : World) : Imm (phOf W) W := fun b o v h => h

/-- fields one behind the other -/
def contig (P : Program) : List Field → Nat → Nat → Bool
  | [], o, n => Nat.beq o n
  | f :: fs, o, n => Nat.beq f.offset o && contig P fs (o + P.cellsOf f.type) n
/-- types of plain data: numbers, texts, sums, slices and structs of such -/
def okT (P : Program) : Nat → TypeId → Bool
  | 0, _ => false
  | d + 1, t => match P.underlying t with
    | some .bool => true
    | some (.int _) => true
    | some .string => true
    | some (.slice e) => okT P d e && Nat.ble 1 (P.cellsOf e)
    | some (.struct fs) => contig P fs.toList 0 (P.cellsOf t) && fs.toList.all fun f => okT P d f.type
    | some (.array n e) => Nat.beq n 32 && (match P.underlying e with | some (.int .u8) => true | _ => false) && Nat.beq (P.cellsOf e) 1 && Nat.beq (P.cellsOf t) 32
    | _ => false

/-- a value of a type, as an element or an argument -/
def ME (P : Program) (F : TypeId → List MV → Prop) (e : TypeId) (x : MV) : Prop :=
  match P.underlying e with
  | some (.struct _) => ∃ cs, x = .agg cs ∧ F e cs
  | _ => F e [x]
def FT (F : TypeId → List MV → Prop) : List TypeId → List MV → Prop
  | [], ms => ms = []
  | t :: ts, ms => ∃ a b, ms = a ++ b ∧ F t a ∧ FT F ts b
/-- the leaves of a value of a type -/
def MT (P : Program) : Nat → TypeId → List MV → Prop
  | 0, _, _ => False
  | d + 1, t, ms => match P.underlying t with
    | some .bool => ∃ b, ms = [.b b]
    | some (.int k) => ∃ n, ms = [.i k n] ∧ (Lit.int k n).wf = true
    | some .string => ∃ l : List UInt8, ms = [.s l] ∧ l.length ≤ maxLen
    | some (.slice e) => ∃ xs, ms = [.list xs] ∧ xs.length ≤ maxLen ∧ ∀ x ∈ xs, ME P (MT P d) e x
    | some (.struct fs) => FT (MT P d) (fs.toList.map (·.type)) ms
    | some (.array _ _) => ∃ h, ms = [.h h]
    | _ => False

section
variable {H : Type} {enc : TypeId × Value → H} {P : Program} {W : World} {base : Nat} {sp : Nat → Bool} {held : Bool} {key : Nat → Nat}

theorem RepL.append {key : Nat → Nat} {φ : Ph} {ms ns : List MV} : ∀ {vs us : List Value}, RepL key φ vs ms → RepL key φ us ns → RepL key φ (vs ++ us) (ms ++ ns) := by
  induction ms with
  | nil => intro vs us h h'; cases h; simpa using h'
  | cons m ms ih =>
    intro vs us h h'
    cases h with
    | cons v _ vs _ h1 h2 => rw [List.append_assoc]; exact .cons v m _ _ h1 (ih h2 h')
theorem RepL.one1 {key : Nat → Nat} {φ : Ph} {v : Value} {m : MV} (h : Rep key φ [v] m) : RepL key φ [v] [m] := by
  have := RepL.cons [v] m [] [] h .nil
  simpa using this
theorem RepL.single {key : Nat → Nat} {φ : Ph} {vs : List Value} {m : MV} (h : RepL key φ vs [m]) : Rep key φ vs m := by
  cases h with
  | cons v _ vs _ h1 h2 => cases h2; simpa using h1

theorem cells_get {a : Addr} {n : Nat} {cs : List Value} (h : W.cells? base a n = some cs) : cs.length = n ∧ ∀ j, j < n → W.cell? (a.add j) = cs[j]? := by
  unfold World.cells? at h
  split at h
  · have hl := mapM_some_length h
    refine ⟨by simpa using hl, fun j hj => ?_⟩
    exact mapM_some_get h j j (by simp [hj])
  · cases h

theorem fields_read {F : TypeId → List MV → Prop} {fuel : Nat} {cs : List Value} : ∀ (fs : List Field) (o n : Nat) (xs : List (DataW H × List MemPlace)), contig P fs o n = true → cs.length = n →
    (∀ (i : Nat) (f : Field), fs[i]? = some f → DataW.trod enc P W base sp held fuel f.type ((cs.drop f.offset).take (P.cellsOf f.type)) = xs[i]?) → xs.length = fs.length →
    (∀ f ∈ fs, ∀ cs' x, DataW.trod enc P W base sp held fuel f.type cs' = some x → ∃ ms, RepL key (phOf W) cs' ms ∧ F f.type ms) →
    ∃ ms, RepL key (phOf W) (cs.drop o) ms ∧ FT F (fs.map (·.type)) ms := by
  intro fs
  induction fs with
  | nil =>
    intro o n xs hc hl _ _ _
    have : o = n := Nat.eq_of_beq_eq_true hc
    subst this
    refine ⟨[], ?_, rfl⟩
    rw [← hl, List.drop_length]; exact .nil
  | cons f fs ih =>
    intro o n xs hc hl hx hxl hF
    simp only [contig, Bool.and_eq_true] at hc
    have ho := Nat.eq_of_beq_eq_true hc.1
    cases xs with
    | nil => simp at hxl
    | cons x xs =>
      have h0 := hx 0 f rfl
      rw [ho] at h0
      obtain ⟨m1, r1, t1⟩ := hF f (by simp) _ x (by simpa using h0)
      obtain ⟨m2, r2, t2⟩ := ih (o + P.cellsOf f.type) n xs hc.2 hl (fun i g hg => by have := hx (i + 1) g (by simpa using hg); simpa using this) (by simpa using hxl) (fun g hg => hF g (by simp [hg]))
      refine ⟨m1 ++ m2, ?_, m1, m2, rfl, t1, t2⟩
      have := r1.append r2
      rw [← List.drop_drop, List.take_append_drop] at this
      exact this

theorem read_rep : ∀ (fuel D : Nat) (t : TypeId) (cs : List Value) (x : DataW H × List MemPlace), okT P D t = true → DataW.trod enc P W base sp held fuel t cs = some x →
    ∃ ms, RepL key (phOf W) cs ms ∧ MT P fuel t ms := by
  intro fuel
  induction fuel with
  | zero => intro D t cs x _ h; simp [DataW.trod] at h
  | succ fuel ih =>
    intro D t cs x hD h
    cases D with
    | zero => simp [okT] at hD
    | succ D =>
      unfold okT at hD
      cases hu : P.underlying t with
      | none => simp [hu] at hD
      | some d =>
        cases d <;> simp only [hu] at hD <;> try (cases hD; done)
        case bool =>
          obtain ⟨b, rfl, _⟩ := DataW.trod_bool hu h
          exact ⟨[.b b], .one1 (.b b), by simp only [MT, hu]; exact ⟨b, rfl⟩⟩
        case int k =>
          obtain ⟨n, rfl, _, hw⟩ := DataW.trod_int hu h
          exact ⟨[.i k n], .one1 (.i k n), by simp only [MT, hu]; exact ⟨n, rfl, hw⟩⟩
        case string =>
          obtain ⟨s, rfl, _, hw⟩ := DataW.trod_string hu h
          exact ⟨[.s s.data.toList], .one1 (.s s), by simp only [MT, hu]; exact ⟨_, rfl, by simpa using hw⟩⟩
        case struct fs =>
          obtain ⟨xs, n, hn, _, hl, hxl, hx⟩ := DataW.trod_struct hu h
          have hn : n = fuel := by omega
          subst hn
          simp only [Bool.and_eq_true] at hD
          obtain ⟨ms, r1, t1⟩ := fields_read (F := MT P n) (key := key) fs.toList 0 (P.cellsOf t) xs hD.1 hl (fun i f hf => hx i f (by simpa using hf)) (by simpa using hxl)
            (fun f hf cs' x' h' => ih D f.type cs' x' (List.all_eq_true.1 hD.2 f hf) h')
          exact ⟨ms, by simpa using r1, by simp only [MT, hu]; exact t1⟩
        case slice e =>
          simp only [Bool.and_eq_true] at hD
          have hpos : 1 ≤ P.cellsOf e := Nat.le_of_ble_eq_true hD.2
          rcases DataW.trod_slice hu h with ⟨rfl, _⟩ | ⟨a, len, cap, elems, rest, n, hn, rfl, _, _, hlc, hcm, hel, hx, _⟩
          · refine ⟨[.list []], .one1 (.list none 0 [] 0 0 0 (fun _ => []) (by simp) (by simp) (by simp) (by simp) (by simp)), ?_⟩
            simp only [MT, hu]
            exact ⟨[], rfl, Nat.zero_le _, by simp⟩
          · have hn : n = fuel := by omega
            subst hn
            have hone : ∀ i, i < len → ∃ cs' m, W.cells? base (a.add (i * P.cellsOf e)) (P.cellsOf e) = some cs' ∧ Rep key (phOf W) cs' m ∧ ME P (MT P n) e m := by
              intro i hi
              have h1 := hx i hi
              cases hc : W.cells? base (a.add (i * P.cellsOf e)) (P.cellsOf e) with
              | none =>
                rw [hc] at h1
                have : elems[i]? = none := by simpa using h1.symm
                rw [List.getElem?_eq_none_iff] at this
                omega
              | some cs' =>
                rw [hc] at h1
                have hlt : i < elems.length := by omega
                rw [List.getElem?_eq_getElem hlt] at h1
                obtain ⟨ms, r1, t1⟩ := ih D e cs' _ hD.1 (by simpa using h1)
                have hok := hD.1
                by_cases hs : ∃ fs, P.underlying e = some (.struct fs)
                · obtain ⟨fs, hs⟩ := hs
                  exact ⟨cs', .agg ms, rfl, .agg cs' ms r1, by simp only [ME, hs]; exact ⟨ms, rfl, t1⟩⟩
                · have h1m : ∃ m, ms = [m] := by
                    cases n with
                    | zero => exact t1.elim
                    | succ n =>
                      simp only [MT] at t1
                      cases hue : P.underlying e with
                      | none => simp [hue] at t1
                      | some de =>
                        cases de <;> simp only [hue] at t1 <;> first
                          | exact t1.elim
                          | (obtain ⟨y, hy, _⟩ := t1; exact ⟨_, hy⟩)
                          | (obtain ⟨y, hy⟩ := t1; exact ⟨_, hy⟩)
                          | exact absurd ⟨_, hue⟩ hs
                  obtain ⟨m, rfl⟩ := h1m
                  refine ⟨cs', m, rfl, r1.single, ?_⟩
                  unfold ME
                  cases hue : P.underlying e with
                  | none => exact t1
                  | some de => cases de <;> first | exact t1 | exact absurd ⟨_, hue⟩ hs
            -- the elements, one by one
            let f : Nat → List Value := fun i => (W.cells? base (a.add (i * P.cellsOf e)) (P.cellsOf e)).getD []
            let g : Nat → MV := fun i => if hi : i < len then Classical.choose (Classical.choose_spec (hone i hi)) else default
            have hfg : ∀ i, i < len → W.cells? base (a.add (i * P.cellsOf e)) (P.cellsOf e) = some (f i) ∧ Rep key (phOf W) (f i) (g i) ∧ ME P (MT P n) e (g i) := by
              intro i hi
              have hsp := Classical.choose_spec (Classical.choose_spec (hone i hi))
              have hf : f i = Classical.choose (hone i hi) := by
                show (W.cells? base (a.add (i * P.cellsOf e)) (P.cellsOf e)).getD [] = _
                exact congrArg (fun o => o.getD []) hsp.1
              have hg : g i = Classical.choose (Classical.choose_spec (hone i hi)) := by
                show (if hi : i < len then _ else _) = _
                rw [dif_pos hi]
              rw [hf, hg]; exact hsp
            have hspot : 0 < len → a = ⟨a.block, a.off, none⟩ := by
              intro h0
              obtain ⟨h1, _, _⟩ := hfg 0 h0
              obtain ⟨hcl, hcg⟩ := cells_get h1
              have := hcg 0 (by omega)
              rw [Nat.zero_mul] at this
              have hz : (a.add 0).add 0 = a := rfl
              rw [hz] at this
              have hlt : 0 < (f 0).length := by omega
              rw [List.getElem?_eq_getElem hlt] at this
              unfold World.cell? at this
              split at this
              · cases hsp : a.spot with
                | none => cases a; simp at hsp; subst hsp; rfl
                | some s => simp [hsp] at this
              · cases this
            have haddr : ∀ i j, i < len → j < P.cellsOf e → phOf W a.block (a.off + i * P.cellsOf e + j) = (f i)[j]? := by
              intro i j hi hj
              obtain ⟨h1, _, _⟩ := hfg i hi
              obtain ⟨hcl, hcg⟩ := cells_get h1
              have := hcg j hj
              rw [← this]
              unfold phOf
              congr 1
              have ha := hspot (by omega)
              rw [ha]
              rw [Addr.add_mid, Addr.add_mid]
            refine ⟨[.list ((List.range len).map g)], .one1 ?_, ?_⟩
            · have hlen : ((List.range len).map g).length = len := by simp
              have := Rep.list (key := key) (φ := phOf W) (some a) cap ((List.range len).map g) a.block a.off (P.cellsOf e) f (by rw [hlen]; exact hlc) (fun h0 => by rw [hlen] at h0; exact congrArg some (hspot h0))
                (fun i hi => by rw [hlen] at hi; exact (cells_get (hfg i hi).1).1) (fun i j hi hj => haddr i j (by rw [hlen] at hi; exact hi) hj)
                (fun i hi => by simp at hi; simpa using (hfg i hi).2.1)
              rw [hlen] at this
              exact this
            · simp only [MT, hu]
              refine ⟨_, rfl, by simp; omega, fun y hy => ?_⟩
              obtain ⟨i, hi, rfl⟩ := List.mem_map.1 hy
              exact (hfg i (by simpa using hi)).2.2
        case array n e =>
          simp only [Bool.and_eq_true] at hD
          obtain ⟨⟨⟨h1, h2⟩, h3⟩, h4⟩ := hD
          have h1 := Nat.eq_of_beq_eq_true h1
          have h3 := Nat.eq_of_beq_eq_true h3
          have h4 := Nat.eq_of_beq_eq_true h4
          subst h1
          obtain ⟨xs, m, hm, _, hl, hxl, hx⟩ := DataW.trod_array hu h
          rw [h4] at hl
          split at h2
          · rename_i hue
            have hcell : ∀ i (hi : i < cs.length), ∃ b : UInt8, cs[i] = .int .u8 (b.toNat : Int) := by
              intro i hi
              have hi32 : i < 32 := by omega
              have := hx i hi32
              rw [h3, Nat.mul_one] at this
              have htk : (cs.drop i).take 1 = [cs[i]] := by
                rw [List.take_one, List.head?_drop, List.getElem?_eq_getElem hi]; rfl
              rw [htk, List.getElem?_eq_getElem (by omega)] at this
              obtain ⟨k, hk, _, hw⟩ := DataW.trod_int hue this
              simp only [List.cons.injEq, and_true] at hk
              refine ⟨UInt8.ofNat k.toNat, ?_⟩
              rw [hk]
              simp only [Lit.wf, Bool.and_eq_true, decide_eq_true_eq] at hw
              have hmin : IntKind.u8.min = 0 := by decide
              have hmax : IntKind.u8.max = 255 := by decide
              rw [hmin, hmax] at hw
              congr 1
              have : (UInt8.ofNat k.toNat).toNat = k.toNat := by
                rw [UInt8.toNat_ofNat']; omega
              rw [this]; omega
            have : ∃ l : List UInt8, cs = l.map fun b => Value.int .u8 (b.toNat : Int) := by
              clear hx hl h
              induction cs with
              | nil => exact ⟨[], rfl⟩
              | cons c cs ihc =>
                obtain ⟨b, hb⟩ := hcell 0 (by simp)
                obtain ⟨l, hl⟩ := ihc (fun i hi => by have := hcell (i + 1) (by simpa using hi); simpa using this)
                exact ⟨b :: l, by simp at hb; rw [hb, hl]; rfl⟩
            obtain ⟨l, rfl⟩ := this
            have hl32 : l.length = 32 := by simpa using hl
            refine ⟨[.h ⟨l, hl32⟩], ?_, by simp only [MT, hu]; exact ⟨_, rfl⟩⟩
            have := RepL.cons (key := key) (φ := phOf W) _ (.h ⟨l, hl32⟩) [] [] (.h ⟨l, hl32⟩) .nil
            simpa using this
          · cases h2

/-- an argument -/
theorem arg_read {r : Reach} {b0 D : Nat} {t : TypeId} {v : Value} {d : DataW H} {ps : List MemPlace} (hD : okT P D t = true) (hv : Value.okWide P W r b0 t v) (h : DataW.Trod enc P W base sp held t v d ps) :
    ∃ m n, ArgRep key (phOf W) v m ∧ ME P (MT P n) t m := by
  obtain ⟨fuel, hf⟩ := h
  obtain ⟨ms, r1, t1⟩ := read_rep (key := key) fuel D t _ _ hD hf
  cases fuel with
  | zero => exact t1.elim
  | succ fuel =>
    have t2 := t1
    simp only [MT] at t1
    cases hu : P.underlying t with
    | none => simp [hu] at t1
    | some k =>
      simp only [hu] at t1
      cases k <;> simp only at t1 <;> try (exact t1.elim)
      case bool =>
        obtain ⟨b, rfl⟩ := t1
        obtain ⟨b', rfl⟩ := okWide_bool hu hv
        refine ⟨.b b, fuel + 1, ⟨rfl, r1.single⟩, by unfold ME; simp only [hu]; exact t2⟩
      case int k =>
        obtain ⟨n, rfl, _⟩ := t1
        obtain ⟨n', rfl⟩ := okWide_int hu hv
        refine ⟨.i k n, fuel + 1, ⟨rfl, r1.single⟩, by unfold ME; simp only [hu]; exact t2⟩
      case string =>
        obtain ⟨l, rfl, _⟩ := t1
        obtain ⟨s', rfl⟩ := okWide_string hu hv
        refine ⟨.s l, fuel + 1, ⟨rfl, r1.single⟩, by unfold ME; simp only [hu]; exact t2⟩
      case slice e =>
        obtain ⟨xs, rfl, _⟩ := t1
        have hvc : v.cells.toList = [v] := by
          simp only [Value.okWide, hu, Cell.okWide] at hv
          cases v <;> simp_all [Cell.ok, Value.cells]
        rw [hvc] at r1
        refine ⟨.list xs, fuel + 1, ⟨rfl, r1.single⟩, by unfold ME; simp only [hu]; exact t2⟩
      case struct fs =>
        obtain ⟨arr, rfl, _⟩ := okWide_struct hu hv
        refine ⟨.agg ms, fuel + 1, ⟨arr, rfl, by simpa [Value.cells] using r1⟩, by unfold ME; simp only [hu]; exact ⟨ms, rfl, t2⟩⟩
      case array n e =>
        obtain ⟨h, rfl⟩ := t1
        have : ∃ arr, v = .agg arr := by
          simp only [Value.okWide, hu] at hv
          obtain ⟨arr, rfl, _⟩ := hv
          exact ⟨arr, rfl⟩
        obtain ⟨arr, rfl⟩ := this
        refine ⟨.h h, fuel + 1, ?_, by unfold ME; simp only [hu]; exact t2⟩
        have hr := r1.single
        simp only [Value.cells] at hr
        generalize hvs : arr.toList = vs at hr
        cases hr
        show Value.agg arr = .agg _
        rw [← hvs]
end

end Dn
/-
  A law of plain data, out of its function's contract. Conditions: none.
-/
set_option linter.unusedSimpArgs false
set_option linter.unusedVariables false
namespace Dn
open Go Go.WideShapes Go.ChangeShapes Go.RowKit

section
variable {H : Type} {enc : TypeId × Value → H} {P : Program} {W W' : World} {c : Ctx}

theorem trodAll_below (hl : laidOutB P = true) (hb : Below W.heap.size W W') : ∀ {ts : List TypeId} {vs : List Value} {ds : List (DataW H)} {ps : List MemPlace}, (∀ t ∈ ts, P.readableRec t = true ∧ t < P.types.size) →
    DataW.TrodAll enc P W 0 (fun _ => true) true ts vs ds ps → (∀ x ∈ ps, x.block < W.heap.size) → DataW.TrodAll enc P W' 0 (fun b => decide (b < W.heap.size)) true ts vs ds ps
  | [], [], [], _, _, h, _ => h
  | t :: ts, v :: vs, d :: ds, _, ht, ⟨p, q, h1, h2, e⟩, hs =>
    ⟨p, q, Below.trod hl (ht t (by simp)).1 (ht t (by simp)).2 h1 hb (fun x hx => hs x (by rw [e]; exact List.mem_append_left _ hx)),
      trodAll_below hl hb (fun u hu => ht u (by simp [hu])) h2 (fun x hx => hs x (by rw [e]; exact List.mem_append_right _ hx)), e⟩

/-- arguments of their types -/
def ParamsOK (P : Program) : List TypeId → List MV → Prop
  | [], ms => ms = []
  | t :: ts, ms => ∃ m r, ms = m :: r ∧ (∃ n, ME P (MT P n) t m) ∧ ParamsOK P ts r
theorem args_read {base : Nat} {sp : Nat → Bool} {held : Bool} {key : Nat → Nat} {r : Reach} {b0 : Nat} : ∀ {ts : List TypeId} {vs : List Value} {ds : List (DataW H)} {ps : List MemPlace}, (∀ t ∈ ts, ∃ D, okT P D t = true) →
    (∀ (j : Nat) t v, ts[j]? = some t → vs[j]? = some v → Value.okWide P W r b0 t v) → DataW.TrodAll enc P W base sp held ts vs ds ps → ∃ ms, ArgReps key (phOf W) vs ms ∧ ParamsOK P ts ms ∧ ds.length = ts.length
  | [], [], [], _, _, _, _ => ⟨[], rfl, rfl, rfl⟩
  | t :: ts, v :: vs, d :: ds, _, ht, hv, ⟨p, q, h1, h2, e⟩ => by
    obtain ⟨D, hD⟩ := ht t (by simp)
    obtain ⟨m, n, r1, t1⟩ := arg_read (key := key) hD (hv 0 t v rfl rfl) h1
    obtain ⟨ms, r2, t2, hl⟩ := args_read (key := key) (fun u hu => ht u (by simp [hu])) (fun j u x hu hx => hv (j + 1) u x (by simpa using hu) (by simpa using hx)) h2
    exact ⟨m :: ms, ⟨v, vs, rfl, r1, r2⟩, ⟨m, ms, rfl, ⟨n, t1⟩, t2⟩, by simp [hl]⟩

theorem law_calls {fn : Func} {f : FuncId} {s : ChangeSpec} {args : Array Value} {ds gs : List (DataW H)} {before : List MemPlace} {tb : TypeId} {base : Nat} (hf : P.funcs[f]? = some fn) (hbody : fn.body.isSome = true) (hname : (fn.name == "runtime.NumGoroutine") = false)
    (hl : laidOutB P = true) (hpar : ∀ t ∈ fn.params.toList, (∃ D, okT P D t = true) ∧ P.readableRec t = true ∧ t < P.types.size) (hres : fn.resultTypes = #[tb]) (htb : P.underlying tb = some .bool) (hv : s.vars = [])
    (hfn : ∀ ds : List (DataW H), ds.length = fn.params.toList.length → s.fn H ds = { results := [.lit (.bool true)], args := ds })
    (hval : ∀ (j : Nat) t v, fn.params[j]? = some t → args[j]? = some v → Value.okWide P W .any base t v)
    (hW : DataW.Whole enc P fn.params.toList s.vars false W args.toList ds gs before) (hg : c.gives (c.key f) = false)
    (hcall : ∀ ms, ParamsOK P fn.params.toList ms → Sound1 P c f ms (.b true)) :
    Calls P f args W fun e W' => ∃ v, e = .returned v ∧ s.post enc P fn false true false false W args v W' := by
  have hW' := hW
  obtain ⟨p, q, hA, hV, rfl, hfz, hnd⟩ := hW
  rw [hv] at hV
  obtain ⟨rfl, rfl⟩ := trodVars_none hV
  have hlt : ∀ x ∈ p, x.block < W.heap.size := fun x hx => by simpa using hW'.lt x (by simp [hx])
  obtain ⟨ms, r1, t1, hdl⟩ := args_read (key := c.key) (fun t ht => (hpar t ht).1) (fun j t v h1 h2 => hval j t v (by simpa using h1) (by simpa using h2)) hA
  have hc := hcall ms t1 (phOf W) W (fun b => W.heap.size ≤ b) args.toList (fun b hb => hb) (by simp only [ArgsIn, hg, Bool.false_eq_true, if_false]; exact r1) (imm_phOf W)
  have hrun : (callFunc f args).run P W = .ok (.enter f args) W := by
    have hn2 : ¬ fn.name = "runtime.NumGoroutine" := by simpa using hname
    cases hb : fn.body with
    | none => rw [hb] at hbody; cases hbody
    | some b => simp [callFunc, hf, hn2, hb]
  unfold CallOK at hc
  rw [Array.toArray_toList, hrun] at hc
  refine hc.mono ?_
  rintro x W' ⟨v, rfl, φ', ht, himm, hr⟩
  have hvb : v = .bool true := by
    obtain ⟨_, hr⟩ := hr
    generalize hvs : [v] = vs at hr
    cases hr; simpa using hvs
  subst hvb
  have hbelow : Below W.heap.size W W' := ⟨ht.rest.1, ht.rest.2.1, ht.rest.2.2.1, ht.size, fun k hk => ht.heap k (by omega) hk⟩
  have hfn' := hfn (ds ++ []) (by simpa using hdl)
  refine ⟨_, rfl, ds, [], _, [], p, [], hW', ?_, ?_, ?_, hbelow.frame _, fun h => by cases h⟩
  · rw [hfn', hres]
    exact trodAll_mk1 (shut_bool htb _)
  · rw [hfn']
    simpa using trodAll_below hl hbelow (fun t ht => (hpar t ht).2) hA hlt
  · rw [hfn', hv]; rfl
end

theorem list_of {α : Type} {f : α → MV} {Q : α → Prop} {R : MV → Prop} {xs : List MV} (h : ∀ x, R x → ∃ y, x = f y ∧ Q y) (hx : ∀ x ∈ xs, R x) : ∃ L : List α, xs = L.map f ∧ ∀ y ∈ L, Q y := by
  induction xs with
  | nil => exact ⟨[], rfl, by simp⟩
  | cons x xs ih =>
    obtain ⟨y, rfl, hq⟩ := h x (hx x (by simp))
    obtain ⟨L, rfl, hL⟩ := ih fun z hz => hx z (by simp [hz])
    exact ⟨y :: L, rfl, by simp only [List.mem_cons]; rintro z (rfl | hz); exact hq; exact hL z hz⟩
theorem rangeI64 {n : Int} (h : (Lit.int .i64 n).wf = true) : -9223372036854775808 ≤ n ∧ n ≤ 9223372036854775807 := by
  simp only [Lit.wf, Bool.and_eq_true, decide_eq_true_eq] at h
  exact h
theorem rangeU8 {n : Int} (h : (Lit.int .u8 n).wf = true) : 0 ≤ n ∧ n ≤ 255 := by
  simp only [Lit.wf, Bool.and_eq_true, decide_eq_true_eq] at h
  exact h
end Dn
/-
  A program's type table, looked through. Conditions: none.
-/
set_option linter.unusedSimpArgs false
set_option linter.unusedVariables false
set_option linter.constructorNameAsVariable false
namespace Dn
open Go

theorem kdB_eq {a b : Kd} (h : kdB a b = true) : a = b := by
  cases a <;> cases b <;> simp [kdB, kB] at h <;> first | rfl | (subst h; rfl)
def isLay1 : List Kd → Kd → Bool
  | [k], k' => kdB k k'
  | _, _ => false
theorem isLayOne_eq {l : List Kd} {k : Kd} (h : isLay1 l k = true) : l = [k] := by
  cases l with
  | nil => simp [isLay1] at h
  | cons a l => cases l with
    | nil => simp only [isLay1] at h; rw [kdB_eq h]
    | cons => simp [isLay1] at h
def natsB : List Nat → List Nat → Bool
  | [], [] => true
  | a :: l, b :: m => Nat.beq a b && natsB l m
  | _, _ => false
theorem natsB_eq {l m : List Nat} (h : natsB l m = true) : l = m := by
  induction l generalizing m with
  | nil => cases m <;> simp [natsB] at h; rfl
  | cons a l ih =>
    cases m with
    | nil => simp [natsB] at h
    | cons b m =>
      simp only [natsB, Bool.and_eq_true] at h
      rw [Nat.eq_of_beq_eq_true h.1, ih h.2]
def nilB {α : Type} : List α → Bool
  | [] => true
  | _ => false
theorem nilB_eq {α : Type} {l : List α} (h : nilB l = true) : l = [] := by cases l <;> simp [nilB] at h; rfl
/-- a row that is there, of one value -/
def hasRow (ti : Nat → Option TI) (t : Nat) : Bool := match ti t with | some J => nilB J.comps && Nat.ble 1 J.size | none => false
theorem hasRow_ok {ti : Nat → Option TI} {t : Nat} (h : hasRow ti t = true) : ∃ J, ti t = some J ∧ J.comps = [] ∧ 0 < J.size := by
  unfold hasRow at h
  cases hJ : ti t with
  | none => simp [hJ] at h
  | some J =>
    simp only [hJ, Bool.and_eq_true] at h
    exact ⟨J, rfl, nilB_eq h.1, Nat.le_of_ble_eq_true h.2⟩
def zeroU8 : List Value → Nat → Bool
  | [], n => Nat.beq n 0
  | .int .u8 k :: r, n + 1 => decide (k = 0) && zeroU8 r n
  | _, _ => false
theorem zeroByte_eq {l : List Value} {n : Nat} (h : zeroU8 l n = true) : l = List.replicate n (.int .u8 0) := by
  induction l generalizing n with
  | nil => have := Nat.eq_of_beq_eq_true h; subst this; rfl
  | cons v l ih =>
    cases n with
    | zero => cases v <;> simp [zeroU8] at h
    | succ n =>
      unfold zeroU8 at h
      split at h
      · rename_i h1; simp at h1
      · rename_i k _ _ h1 h2
        simp only [List.cons.injEq] at h1
        obtain ⟨rfl, rfl⟩ := h1
        cases h2
        simp only [Bool.and_eq_true, decide_eq_true_eq] at h
        rw [h.1, ih h.2]; rfl
      · cases h
def leafIs : List Leaf → Leaf → Bool
  | [.nil], .nil => true
  | [.p (.b false)], .p (.b false) => true
  | [.p (.i k n)], .p (.i k' m) => kB k k' && decide (n = m)
  | [.p (.s [])], .p (.s []) => true
  | _, _ => false
theorem leafIs_eq {l : List Leaf} {x : Leaf} (h : leafIs l x = true) : l = [x] := by
  unfold leafIs at h
  split at h <;> first | rfl | skip
  · simp [kB] at h; rw [h.1, h.2]
  · cases h
def hashZ : List Leaf → Bool
  | [.hs x] => decide (x = Hash.zero)
  | _ => false
theorem hashZ_eq {l : List Leaf} (h : hashZ l = true) : l = [.hs Hash.zero] := by
  unfold hashZ at h
  split at h
  · rw [of_decide_eq_true h]
  · cases h

def rowDB (ti : Nat → Option TI) (P : Program) (I : TI) (z : Option Value) : TypeDesc → Bool
  | .struct fs => I.st && nilB I.comps && Nat.ble 1 I.size && Nat.beq (layW I.lay) I.size && natsB (fs.toList.map (·.offset)) I.flds && natsB (fs.toList.map (·.type)) I.ftys &&
      (fs.toList.all fun f => hasRow ti f.type) && (match z with | some (.agg cs) => leavesZ I.zero cs.toList && Nat.beq cs.size I.size | _ => false)
  | .tuple ts => natsB I.comps ts.toList && !nilB I.comps && nilB I.lay && !I.st
  | .slice el => !I.st && nilB I.comps && Nat.beq I.size 1 && Nat.beq I.elem el && hasRow ti el && (match z with | some (.slice none 0 0) => true | _ => false) && leafIs I.zero .nil && isLay1 I.lay .l
  | .array n el => !I.st && nilB I.comps && Nat.beq I.size 32 && Nat.beq n 32 && Nat.beq I.elem el && (match P.underlying el with | some (.int .u8) => true | _ => false) && (match P.info? el with | some i => Nat.beq i.size 1 | none => false) &&
      isLay1 I.lay .h && hashZ I.zero && (match z with | some (.agg cs) => zeroU8 cs.toList 32 | _ => false)
  | .bool => !I.st && nilB I.comps && Nat.beq I.size 1 && isLay1 I.lay .b && leafIs I.zero (.p (.b false)) && (match z with | some (.bool false) => true | _ => false)
  | .int k => !I.st && nilB I.comps && Nat.beq I.size 1 && isLay1 I.lay (.i k) && leafIs I.zero (.p (.i k 0)) && (match z with | some (.int k' n) => kB k' k && decide (n = 0) | _ => false)
  | .string => !I.st && nilB I.comps && Nat.beq I.size 1 && isLay1 I.lay .s && leafIs I.zero (.p (.s [])) && (match z with | some (.string b) => nilB b.data.toList | _ => false)
  | _ => !I.st && nilB I.comps && Nat.beq I.size 1 && isLay1 I.lay .raw && (match z with | some v => v.oneCell' && leavesZ I.zero [v] | none => false)
theorem rowDB_ok {ti : Nat → Option TI} {P : Program} {I : TI} {z : Option Value} {d : TypeDesc} (h : rowDB ti P I z d = true) : RowD ti P I z d := by
  cases d <;> simp only [rowDB, Bool.and_eq_true, Bool.not_eq_true'] at h <;> simp only [RowD]
  case struct fs =>
    obtain ⟨⟨⟨⟨⟨⟨⟨h1, h2⟩, h3⟩, h4⟩, h5⟩, h6⟩, h7⟩, h8⟩ := h
    refine ⟨h1, nilB_eq h2, ⟨Nat.le_of_ble_eq_true h3, Nat.eq_of_beq_eq_true h4⟩, natsB_eq h5, natsB_eq h6, fun k f hk => ?_, ?_⟩
    · exact hasRow_ok (List.all_eq_true.1 h7 f (by
        have : fs.toList[k]? = some f := by simpa using hk
        exact List.mem_of_getElem? this))
    · split at h8
      · rename_i cs
        simp only [Bool.and_eq_true] at h8
        exact ⟨cs, rfl, h8.1, Nat.eq_of_beq_eq_true h8.2⟩
      · cases h8
  case tuple ts =>
    obtain ⟨⟨⟨h1, h2⟩, h3⟩, h4⟩ := h
    exact ⟨natsB_eq h1, fun he => (by rw [he] at h2; simp [nilB] at h2), nilB_eq h3, h4⟩
  case slice el =>
    obtain ⟨⟨⟨⟨⟨⟨⟨h1, h2⟩, h3⟩, h4⟩, h5⟩, h6⟩, h7⟩, h8⟩ := h
    refine ⟨h1, nilB_eq h2, Nat.eq_of_beq_eq_true h3, Nat.eq_of_beq_eq_true h4, hasRow_ok h5, ?_, leafIs_eq h7, .l, isLayOne_eq h8, rfl⟩
    split at h6
    · rfl
    · cases h6
  case array n el =>
    obtain ⟨⟨⟨⟨⟨⟨⟨⟨⟨h1, h2⟩, h3⟩, h4⟩, h5⟩, h6⟩, h7⟩, h8⟩, h9⟩, h10⟩ := h
    refine ⟨h1, nilB_eq h2, Nat.eq_of_beq_eq_true h3, Nat.eq_of_beq_eq_true h4, Nat.eq_of_beq_eq_true h5, ?_, isLayOne_eq h8, hashZ_eq h9, ?_⟩
    · split at h6
      · rename_i hu
        split at h7
        · rename_i i hi; exact ⟨i, hu, hi, Nat.eq_of_beq_eq_true h7⟩
        · cases h7
      · cases h6
    · split at h10
      · rename_i cs
        have := zeroByte_eq h10
        congr 1
        congr 1
        apply Array.toList_inj.1
        rw [this]; rfl
      · cases h10
  case bool =>
    obtain ⟨⟨⟨⟨⟨h1, h2⟩, h3⟩, h4⟩, h5⟩, h6⟩ := h
    refine ⟨h1, nilB_eq h2, Nat.eq_of_beq_eq_true h3, isLayOne_eq h4, leafIs_eq h5, ?_⟩
    split at h6
    · rfl
    · cases h6
  case int k =>
    obtain ⟨⟨⟨⟨⟨h1, h2⟩, h3⟩, h4⟩, h5⟩, h6⟩ := h
    refine ⟨h1, nilB_eq h2, Nat.eq_of_beq_eq_true h3, isLayOne_eq h4, leafIs_eq h5, ?_⟩
    split at h6
    · simp only [kB, Bool.and_eq_true, decide_eq_true_eq] at h6
      rw [h6.1, h6.2]
    · cases h6
  case string =>
    obtain ⟨⟨⟨⟨⟨h1, h2⟩, h3⟩, h4⟩, h5⟩, h6⟩ := h
    refine ⟨h1, nilB_eq h2, Nat.eq_of_beq_eq_true h3, isLayOne_eq h4, leafIs_eq h5, ?_⟩
    split at h6
    · rename_i b; exact ⟨b, rfl, nilB_eq h6⟩
    · cases h6
  all_goals
    obtain ⟨⟨⟨⟨h1, h2⟩, h3⟩, h4⟩, h5⟩ := h
    refine ⟨h1, nilB_eq h2, Nat.eq_of_beq_eq_true h3, isLayOne_eq h4, ?_⟩
    split at h5
    · rename_i v
      simp only [Bool.and_eq_true] at h5
      exact ⟨v, rfl, h5.1, h5.2⟩
    · cases h5
def rowB (ti : Nat → Option TI) (P : Program) (t : Nat) (I : TI) : Bool :=
  match P.underlying t, P.info? t with
  | some d, some i => (!nilB I.comps || (Nat.beq i.size I.size && Nat.beq i.bytes I.bytes)) && rowDB ti P I i.zero d
  | _, _ => false
theorem rowB_ok {ti : Nat → Option TI} {P : Program} {t : Nat} {I : TI} (h : rowB ti P t I = true) : RowOK ti P t I := by
  unfold rowB at h
  split at h
  · rename_i d i hu hi
    simp only [Bool.and_eq_true, Bool.or_eq_true, Bool.not_eq_true'] at h
    refine ⟨d, i, hu, hi, fun hc => ?_, rowDB_ok h.2⟩
    rcases h.1 with h1 | h1
    · rw [hc] at h1; simp [nilB] at h1
    · exact ⟨Nat.eq_of_beq_eq_true h1.1, Nat.eq_of_beq_eq_true h1.2⟩
  · cases h

def lookT : List (Nat × TI) → Nat → Option TI
  | [], _ => none
  | (k, s) :: r, t => bif Nat.beq k t then some s else lookT r t
def tabB (P : Program) (tab : List (Nat × TI)) : Bool := tab.all fun p => rowB (lookT tab) P p.1 p.2
theorem lookT_mem {l : List (Nat × TI)} {t : Nat} {I : TI} (h : lookT l t = some I) : (t, I) ∈ l := by
  induction l with
  | nil => simp [lookT] at h
  | cons p l ih =>
    obtain ⟨k, s⟩ := p
    simp only [lookT, nbeq] at h
    by_cases hk : k = t
    · subst hk; simp at h; subst h; simp
    · simp only [hk, decide_false, cond_false] at h
      exact List.mem_cons_of_mem _ (ih h)
theorem tabB_ok {P : Program} {tab : List (Nat × TI)} (h : tabB P tab = true) : TIok P (lookT tab) := fun t I hI => rowB_ok (List.all_eq_true.1 h (t, I) (lookT_mem hI))

end Dn
/-
  Comparing values of plain types. Conditions: none.
-/
set_option linter.unusedSimpArgs false
set_option linter.unusedVariables false
set_option linter.constructorNameAsVariable false
namespace Dn
open Go

/-- kinds, cell by cell -/
def cks : List Kd → List Kd
  | [] => []
  | .h :: r => List.replicate 32 (.i .u8) ++ cks r
  | k :: r => k :: cks r
def fitC : Kd → Value → Bool
  | .b, .bool _ => true
  | .i k, .int k' _ => decide (k' = k)
  | .s, .string _ => true
  | _, _ => false
def fitCs : List Kd → List Value → Prop
  | [], vs => vs = []
  | k :: ks, vs => ∃ v r, vs = v :: r ∧ fitC k v = true ∧ fitCs ks r
def ceq : Value → Value → Bool
  | .bool a, .bool b => decide (a = b)
  | .int _ a, .int _ b => decide (a = b)
  | .string a, .string b => decide (a.data.toList = b.data.toList)
  | _, _ => false
def ceqs : List Value → List Value → Bool
  | [], [] => true
  | x :: xs, y :: ys => ceq x y && ceqs xs ys
  | _, _ => false
theorem ceqs_append {xs ys us vs : List Value} (h : xs.length = ys.length) : ceqs (xs ++ us) (ys ++ vs) = (ceqs xs ys && ceqs us vs) := by
  induction xs generalizing ys with
  | nil => cases ys with | nil => simp [ceqs] | cons => simp at h
  | cons x xs ih => cases ys with | nil => simp at h | cons y ys => simp only [List.cons_append, ceqs, ih (by simpa using h), Bool.and_assoc]
theorem fitCs.length {ks : List Kd} : ∀ {vs : List Value}, fitCs ks vs → vs.length = ks.length := by
  induction ks with
  | nil => intro vs h; cases h; rfl
  | cons k ks ih => intro vs h; obtain ⟨v, r, rfl, _, h2⟩ := h; simp [ih h2]
theorem fitCs.append {ks js : List Kd} : ∀ {vs us : List Value}, fitCs ks vs → fitCs js us → fitCs (ks ++ js) (vs ++ us) := by
  induction ks with
  | nil => intro vs us h h'; cases h; simpa using h'
  | cons k ks ih => intro vs us h h'; obtain ⟨v, r, rfl, h1, h2⟩ := h; exact ⟨v, r ++ us, rfl, h1, ih h2 h'⟩
theorem fitCs.split {ks js : List Kd} : ∀ {vs : List Value}, fitCs (ks ++ js) vs → fitCs ks (vs.take ks.length) ∧ fitCs js (vs.drop ks.length) := by
  induction ks with
  | nil => intro vs h; exact ⟨by simp [fitCs], by simpa using h⟩
  | cons k ks ih =>
    intro vs h
    obtain ⟨v, r, rfl, h1, h2⟩ := h
    obtain ⟨h3, h4⟩ := ih h2
    exact ⟨⟨v, _, rfl, h1, h3⟩, by simpa using h4⟩

theorem fitCs_hash (x : Hash) : fitCs (List.replicate 32 (.i .u8)) (hcells x) := by
  have : ∀ (l : List UInt8), fitCs (List.replicate l.length (.i .u8)) (l.map fun b => Value.int .u8 (b.toNat : Int)) := by
    intro l
    induction l with
    | nil => rfl
    | cons b l ih => exact ⟨_, _, rfl, by simp [fitC], ih⟩
  have h := this x.l
  rw [x.h] at h
  exact h
theorem ceqs_hash (x y : Hash) : ceqs (hcells x) (hcells y) = decide (x = y) := by
  have : ∀ (l m : List UInt8), l.length = m.length → ceqs (l.map fun b => Value.int .u8 (b.toNat : Int)) (m.map fun b => Value.int .u8 (b.toNat : Int)) = decide (l = m) := by
    intro l
    induction l with
    | nil => intro m h; cases m with | nil => rfl | cons => simp at h
    | cons b l ih =>
      intro m h
      cases m with
      | nil => simp at h
      | cons b' m =>
        simp only [List.map_cons, ceqs, ceq, ih m (by simpa using h), List.cons.injEq]
        have : ((b.toNat : Int) = (b'.toNat : Int)) ↔ b = b' := by
          constructor
          · intro he; apply UInt8.toNat_inj.1; omega
          · intro he; rw [he]
        simp [this]
  rw [hcells, hcells, this x.l y.l (by rw [x.h, y.h])]
  by_cases h : x = y
  · subst h; simp
  · have : x.l ≠ y.l := fun he => h (Hash.ext' he)
    simp [h, this]

section
variable {e : Env}
theorem fit_cells {lay : List Kd} : ∀ {ls : List Leaf} {vs : List Value}, LeavesRep e vs ls → fitLs lay ls = true → fitCs (cks lay) vs := by
  induction lay with
  | nil =>
    intro ls vs h hf
    cases ls with
    | nil => cases h; rfl
    | cons => simp [fitLs] at hf
  | cons k lay ih =>
    intro ls vs h hf
    cases ls with
    | nil => simp [fitLs] at hf
    | cons l ls =>
      simp only [fitLs] at hf
      cases h1 : fitL k l with
      | false => simp [h1] at hf
      | true =>
        simp only [h1, cond_true] at hf
        obtain ⟨v, u, rfl, g1, g2⟩ := h
        have hr := ih g2 hf
        have one : ∀ m : MV, ∀ kd : Kd, l = .p m → (∀ w : List Value, Rep e.key e.φ w m → ∃ x, w = [x] ∧ fitC kd x = true) → fitCs (kd :: cks lay) (v ++ u) := by
          intro m kd hl hm
          subst hl
          obtain ⟨x, rfl, hx⟩ := hm v g1.2
          exact ⟨x, u, rfl, hx, hr⟩
        cases k <;> cases l <;> simp only [fitL] at h1 <;> try (cases h1; done)
        · rename_i m
          cases m <;> simp only [fitL] at h1 <;> try (cases h1; done)
          exact one _ _ rfl (fun w hw => by cases hw; exact ⟨_, rfl, rfl⟩)
        · rename_i k m
          cases m <;> simp only [fitL] at h1 <;> try (cases h1; done)
          exact one _ _ rfl (fun w hw => by cases hw; exact ⟨_, rfl, h1⟩)
        · rename_i m
          cases m <;> simp only [fitL] at h1 <;> try (cases h1; done)
          exact one _ _ rfl (fun w hw => by cases hw; exact ⟨_, rfl, rfl⟩)
        · rename_i x
          have g1 : v = hcells x := g1
          subst g1
          exact (fitCs_hash x).append hr
theorem eq_leaf_cells {l l' : Leaf} {v v' : List Value} {b : Bool} (h : LeafRep e v l) (h' : LeafRep e v' l') (hb : eqLeaf l l' = some b) : ceqs v v' = b ∧ v.length = v'.length := by
  unfold eqLeaf at hb
  split at hb
  · obtain ⟨_, h⟩ := h; obtain ⟨_, h'⟩ := h'
    cases h; cases h'
    simp at hb; exact ⟨by simp [ceqs, ceq, ← hb], rfl⟩
  · obtain ⟨_, h⟩ := h; obtain ⟨_, h'⟩ := h'
    cases h; cases h'
    rename_i k x k' y _ _
    cases hk : decide (k = k') with
    | false => simp [hk] at hb
    | true => simp [hk] at hb; exact ⟨by simp [ceqs, ceq, ← hb], rfl⟩
  · obtain ⟨_, h⟩ := h; obtain ⟨_, h'⟩ := h'
    cases h; cases h'
    simp at hb; exact ⟨by simp [ceqs, ceq, ← hb], rfl⟩
  · rename_i x y
    have h : v = hcells x := h
    have h' : v' = hcells y := h'
    subst h; subst h'
    simp at hb
    exact ⟨by rw [ceqs_hash, ← hb], by rw [hcells_length, hcells_length]⟩
  · cases hb
theorem eq_cells {ls : List Leaf} : ∀ {ls' : List Leaf} {vs vs' : List Value} {b : Bool}, LeavesRep e vs ls → LeavesRep e vs' ls' → eqLeaves ls ls' = some b → ceqs vs vs' = b := by
  induction ls with
  | nil =>
    intro ls' vs vs' b h h' hb
    cases ls' with
    | nil => cases h; cases h'; simp [eqLeaves] at hb; subst hb; rfl
    | cons l' ls' => simp [eqLeaves] at hb
  | cons l ls ih =>
    intro ls' vs vs' b h h' hb
    cases ls' with
    | nil => simp [eqLeaves] at hb
    | cons l' ls' =>
      obtain ⟨v, u, rfl, h1, h2⟩ := h
      obtain ⟨v', u', rfl, h1', h2'⟩ := h'
      have two : ∀ x y, eqLeaf l l' = some x → eqLeaves ls ls' = some y → b = (x && y) → ceqs (v ++ u) (v' ++ u') = b := by
        intro x y hx hy hxy
        obtain ⟨g1, g2⟩ := eq_leaf_cells h1 h1' hx
        rw [ceqs_append g2, g1, ih h2 h2' hy, hxy]
      cases ls with
      | nil =>
        cases ls' with
        | nil =>
          have hb : eqLeaf l l' = some b := hb
          exact two b true hb rfl (by simp)
        | cons p q =>
          simp only [eqLeaves] at hb
          split at hb
          · rename_i x y hx hy; exact two x y hx hy (by simpa using hb.symm)
          · cases hb
      | cons p q =>
        simp only [eqLeaves] at hb
        split at hb
        · rename_i x y hx hy; exact two x y hx hy (by simpa using hb.symm)
        · cases hb
end

/-- the kinds of a type's cells -/
def kindsF (F : TypeId → Option (List Kd)) (P : Program) : List Field → Nat → Nat → Option (List Kd)
  | [], o, n => bif Nat.beq o n then some [] else none
  | f :: fs, o, n => match F f.type with
    | some ks => bif Nat.beq f.offset o && Nat.beq ks.length (P.cellsOf f.type) && !(f.name == "_") then (match kindsF F P fs (o + ks.length) n with | some r => some (ks ++ r) | none => none) else none
    | none => none
def repK : Nat → List Kd → List Kd
  | 0, _ => []
  | n + 1, ks => ks ++ repK n ks
def kindsAt (P : Program) : Nat → TypeId → Option (List Kd)
  | 0, _ => none
  | d + 1, t => match P.underlying t with
    | some .bool => some [.b]
    | some (.int k) => some [.i k]
    | some .string => some [.s]
    | some (.array n e) => match kindsAt P d e with
      | some ks => bif Nat.beq ks.length (P.cellsOf e) && (match P.info? e with | some _ => true | none => false) then some (repK n ks) else none
      | none => none
    | some (.struct fs) => bif P.stoodInHeld t then none else kindsF (kindsAt P d) P fs.toList 0 (P.cellsOf t)
    | _ => none
def aggD : TypeDesc → Bool
  | .struct _ => true
  | .array _ _ => true
  | _ => false
theorem kindsF_len {F : TypeId → Option (List Kd)} {P : Program} : ∀ (fs : List Field) (o n : Nat) (ks : List Kd), kindsF F P fs o n = some ks → o + ks.length = n := by
  intro fs
  induction fs with
  | nil =>
    intro o n ks hk
    simp only [kindsF] at hk
    cases hb : Nat.beq o n with
    | false => simp [hb] at hk
    | true => simp [hb] at hk; subst hk; simpa using Nat.eq_of_beq_eq_true hb
  | cons f fs ihf =>
    intro o n ks hk
    simp only [kindsF] at hk
    cases hf : F f.type with
    | none => simp [hf] at hk
    | some js =>
      simp only [hf] at hk
      cases hc : Nat.beq f.offset o && Nat.beq js.length (P.cellsOf f.type) && !(f.name == "_") with
      | false => simp [hc] at hk
      | true =>
        simp only [hc, cond_true] at hk
        cases hr : kindsF F P fs (o + js.length) n with
        | none => simp [hr] at hk
        | some rs =>
          simp only [hr, Option.some.injEq] at hk
          subst hk
          have := ihf _ _ _ hr
          simp only [List.length_append]; omega
/-- a value, and its cells -/
def Wrap (P : Program) (t : TypeId) (v : Value) (cs : List Value) : Prop :=
  match P.underlying t with
  | some (.struct _) | some (.array _ _) => v = .agg cs.toArray
  | _ => cs = [v]
theorem repK_length (n : Nat) (ks : List Kd) : (repK n ks).length = n * ks.length := by
  induction n with
  | zero => simp [repK]
  | succ n ih => simp only [repK, List.length_append, ih, Nat.succ_mul]; omega

section
variable {P : Program} {w : World}
theorem part_wrap {t : TypeId} {xs : Array Value} {off : Nat} {n : Nat} {d : TypeDesc} (hu : P.underlying t = some d) (hn : P.cellsOf t = n) (hone : aggD d = false → n = 1) (hl : off + n ≤ xs.size) :
    ∃ v, (Go.part t xs off).run P w = .ok v w ∧ Wrap P t v ((xs.toList.drop off).take n) := by
  obtain ⟨i, hi⟩ := info_of_underlying hu
  have hsz : i.size = n := by rw [← hn]; simp [Program.cellsOf, hi]
  cases hd : aggD d with
  | true =>
    refine ⟨.agg (xs.extract off (off + n)), ?_, ?_⟩
    · cases d <;> simp [aggD] at hd <;> simp [Go.part, isAgg, run_underlying hu, Go.sizeOf, typeInfo, hi, hsz]
    · have he : (xs.extract off (off + n)) = ((xs.toList.drop off).take n).toArray := by
        apply Array.toList_inj.1
        rw [Array.toList_extract]; simp [List.extract]
      unfold Wrap
      cases d <;> simp [aggD] at hd <;> simp only [hu] <;> rw [he]
  | false =>
    have hn1 := hone hd
    subst hn1
    have hlt : off < xs.size := by omega
    refine ⟨xs[off], ?_, ?_⟩
    · cases d <;> simp [aggD] at hd <;> simp [Go.part, isAgg, run_underlying hu, hlt]
    · have he : (xs.toList.drop off).take 1 = [xs[off]] := by
        rw [List.take_one, List.head?_drop]; simp [hlt]
      unfold Wrap
      cases d <;> simp [aggD] at hd <;> simp only [hu] <;> exact he

theorem fields_eq {F : TypeId → Option (List Kd)} {dd : Nat} {xs ys : Array Value} : ∀ (fs : List Field) (o n : Nat) (ks : List Kd), kindsF F P fs o n = some ks → xs.size = n → ys.size = n → fitCs ks (xs.toList.drop o) → fitCs ks (ys.toList.drop o) →
    (∀ f ∈ fs, ∀ js, F f.type = some js → (∃ d, P.underlying f.type = some d ∧ (aggD d = false → js.length = 1)) ∧
      ∀ (x y : Value) (us vs : List Value), Wrap P f.type x us → Wrap P f.type y vs → fitCs js us → fitCs js vs → (Op.equalIn dd f.type x y).run P w = .ok (ceqs us vs) w) →
    (Op.eqFields dd xs ys fs).run P w = .ok (ceqs (xs.toList.drop o) (ys.toList.drop o)) w := by
  intro fs
  induction fs with
  | nil =>
    intro o n ks hk hx hy _ _ _
    simp only [kindsF] at hk
    cases hb : Nat.beq o n with
    | false => simp [hb] at hk
    | true =>
      have hb := Nat.eq_of_beq_eq_true hb
      have h1 : xs.toList.drop o = [] := List.drop_eq_nil_of_le (by simp [hx, hb])
      have h2 : ys.toList.drop o = [] := List.drop_eq_nil_of_le (by simp [hy, hb])
      rw [h1, h2]
      simp [Op.eqFields, ceqs]
  | cons f fs ih =>
    intro o n ks hk hx hy fx fy hF
    simp only [kindsF] at hk
    cases hf : F f.type with
    | none => simp [hf] at hk
    | some js =>
      simp only [hf] at hk
      cases hc : Nat.beq f.offset o && Nat.beq js.length (P.cellsOf f.type) && !(f.name == "_") with
      | false => simp [hc] at hk
      | true =>
        simp only [hc, cond_true] at hk
        simp only [Bool.and_eq_true, Bool.not_eq_true'] at hc
        obtain ⟨⟨h1, h2⟩, h3⟩ := hc
        have h1 := Nat.eq_of_beq_eq_true h1
        have h2 := Nat.eq_of_beq_eq_true h2
        have h3 : f.name ≠ "_" := by intro he; rw [he] at h3; simp at h3
        cases hr : kindsF F P fs (o + js.length) n with
        | none => simp [hr] at hk
        | some rs =>
          simp only [hr, Option.some.injEq] at hk
          subst hk
          obtain ⟨fx1, fx2⟩ := fx.split
          obtain ⟨fy1, fy2⟩ := fy.split
          rw [List.drop_drop] at fx2 fy2
          have lx := fx.length
          have ly := fy.length
          simp only [List.length_drop, List.length_append, Array.length_toList] at lx ly
          obtain ⟨⟨d, hu, hone⟩, heq⟩ := hF f (by simp) js hf
          by_cases hz : o + js.length ≤ xs.size ∧ o + js.length ≤ ys.size
          · obtain ⟨x, px, wx⟩ := part_wrap (w := w) (xs := xs) (off := f.offset) hu h2.symm hone (by rw [h1]; exact hz.1)
            obtain ⟨y, py, wy⟩ := part_wrap (w := w) (xs := ys) (off := f.offset) hu h2.symm hone (by rw [h1]; exact hz.2)
            rw [h1] at wx wy
            have he := heq x y _ _ wx wy fx1 fy1
            have hrest := ih (o + js.length) n rs hr hx hy fx2 fy2 (fun g hg => hF g (by simp [hg]))
            simp only [Op.eqFields, h3, ne_eq, not_false_eq_true, if_true, Sem.run_bind, px, py, he, Result.andThen_ok]
            have hsplit : ceqs (xs.toList.drop o) (ys.toList.drop o) = (ceqs ((xs.toList.drop o).take js.length) ((ys.toList.drop o).take js.length) && ceqs (xs.toList.drop (o + js.length)) (ys.toList.drop (o + js.length))) := by
              rw [← List.drop_drop, ← List.drop_drop, ← ceqs_append (by rw [fx1.length, fy1.length]), List.take_append_drop, List.take_append_drop]
            rw [hsplit]
            cases ceqs ((xs.toList.drop o).take js.length) ((ys.toList.drop o).take js.length)
            · simp
            · simpa using hrest
          · exfalso
            have := kindsF_len _ _ _ _ hr
            omega

theorem items_eq {e : TypeId} {dd : Nat} {xs ys : Array Value} {js : List Kd} (hjl : js.length = P.cellsOf e) (hd : ∃ d, P.underlying e = some d ∧ (aggD d = false → js.length = 1))
    (heq : ∀ (x y : Value) (us vs : List Value), Wrap P e x us → Wrap P e y vs → fitCs js us → fitCs js vs → (Op.equalIn dd e x y).run P w = .ok (ceqs us vs) w) :
    ∀ (m i : Nat), xs.size = (i + m) * js.length → ys.size = (i + m) * js.length → fitCs (repK m js) (xs.toList.drop (i * js.length)) → fitCs (repK m js) (ys.toList.drop (i * js.length)) →
    (Op.eqItems dd e (P.cellsOf e) xs ys (List.range' i m)).run P w = .ok (ceqs (xs.toList.drop (i * js.length)) (ys.toList.drop (i * js.length))) w := by
  intro m
  induction m with
  | zero =>
    intro i hx hy _ _
    have h1 : xs.toList.drop (i * js.length) = [] := List.drop_eq_nil_of_le (by simp [hx])
    have h2 : ys.toList.drop (i * js.length) = [] := List.drop_eq_nil_of_le (by simp [hy])
    rw [h1, h2]
    simp [Op.eqItems, ceqs]
  | succ m ih =>
    intro i hx hy fx fy
    simp only [repK] at fx fy
    obtain ⟨fx1, fx2⟩ := fx.split
    obtain ⟨fy1, fy2⟩ := fy.split
    have hmul : i * js.length + js.length = (i + 1) * js.length := by rw [Nat.succ_mul]
    rw [List.drop_drop, hmul] at fx2 fy2
    obtain ⟨d, hu, hone⟩ := hd
    have hle : (i + 1) * js.length ≤ (i + (m + 1)) * js.length := Nat.mul_le_mul_right _ (by omega)
    obtain ⟨x, px, wx⟩ := part_wrap (w := w) (xs := xs) (off := i * js.length) hu hjl.symm hone (by omega)
    obtain ⟨y, py, wy⟩ := part_wrap (w := w) (xs := ys) (off := i * js.length) hu hjl.symm hone (by omega)
    have he := heq x y _ _ wx wy fx1 fy1
    have hrest := ih (i + 1) (by rw [hx]; congr 1; omega) (by rw [hy]; congr 1; omega) fx2 fy2
    rw [List.range'_succ]
    simp only [Op.eqItems, Sem.run_bind, ← hjl, px, py, he, Result.andThen_ok]
    have hsplit : ceqs (xs.toList.drop (i * js.length)) (ys.toList.drop (i * js.length)) = (ceqs ((xs.toList.drop (i * js.length)).take js.length) ((ys.toList.drop (i * js.length)).take js.length) && ceqs (xs.toList.drop ((i + 1) * js.length)) (ys.toList.drop ((i + 1) * js.length))) := by
      rw [← hmul, ← List.drop_drop, ← List.drop_drop, ← ceqs_append (by rw [fx1.length, fy1.length]), List.take_append_drop, List.take_append_drop]
    rw [hsplit]
    cases ceqs ((xs.toList.drop (i * js.length)).take js.length) ((ys.toList.drop (i * js.length)).take js.length)
    · simp
    · rw [← hjl] at hrest; simpa using hrest

theorem kinds_one : ∀ (d : Nat) (t : TypeId) (ks : List Kd), kindsAt P d t = some ks → ∃ k, P.underlying t = some k ∧ (aggD k = false → ks.length = 1) := by
  intro d t ks h
  cases d with
  | zero => simp [kindsAt] at h
  | succ d =>
    simp only [kindsAt] at h
    cases hu : P.underlying t with
    | none => simp [hu] at h
    | some k =>
      refine ⟨k, rfl, fun ha => ?_⟩
      cases k <;> simp only [hu] at h <;> first
        | (simp only [Option.some.injEq] at h; subst h; rfl)
        | (cases h; done)
        | (simp [aggD] at ha; done)
theorem equal_cells : ∀ (d : Nat) (t : TypeId) (ks : List Kd), kindsAt P d t = some ks → ∀ (m : Nat) (x y : Value) (us vs : List Value), Wrap P t x us → Wrap P t y vs → fitCs ks us → fitCs ks vs →
    (Op.equalIn (m + d) t x y).run P w = .ok (ceqs us vs) w := by
  intro d
  induction d with
  | zero => intro t ks h; simp [kindsAt] at h
  | succ d ih =>
    intro t ks h m x y us vs hx hy fx fy
    simp only [kindsAt] at h
    have hmd : m + (d + 1) = (m + d) + 1 := rfl
    rw [hmd]
    cases hu : P.underlying t with
    | none => simp [hu] at h
    | some k =>
      cases k <;> simp only [hu] at h <;> try (cases h; done)
      case bool =>
        simp only [Option.some.injEq] at h; subst h
        simp only [Wrap, hu] at hx hy
        subst hx; subst hy
        obtain ⟨v, r, h1, h2, h3⟩ := fx
        obtain ⟨v', r', h1', h2', h3'⟩ := fy
        simp at h1 h1'
        obtain ⟨rfl, _⟩ := h1
        obtain ⟨rfl, _⟩ := h1'
        cases x <;> simp [fitC] at h2
        cases y <;> simp [fitC] at h2'
        rename_i a b
        rw [run_equalIn_bool' w _ t a b hu]
        simp [ceqs, ceq]
        cases a <;> cases b <;> rfl
      case int k =>
        simp only [Option.some.injEq] at h; subst h
        simp only [Wrap, hu] at hx hy
        subst hx; subst hy
        obtain ⟨v, r, h1, h2, h3⟩ := fx
        obtain ⟨v', r', h1', h2', h3'⟩ := fy
        simp at h1 h1'
        obtain ⟨rfl, _⟩ := h1
        obtain ⟨rfl, _⟩ := h1'
        cases x <;> simp [fitC] at h2
        cases y <;> simp [fitC] at h2'
        subst h2; subst h2'
        rw [run_equalIn_int w _ t _ _ _ _ hu]
        simp only [ceqs, ceq, Bool.and_true]
        congr 1
      case string =>
        simp only [Option.some.injEq] at h; subst h
        simp only [Wrap, hu] at hx hy
        subst hx; subst hy
        obtain ⟨v, r, h1, h2, h3⟩ := fx
        obtain ⟨v', r', h1', h2', h3'⟩ := fy
        simp at h1 h1'
        obtain ⟨rfl, _⟩ := h1
        obtain ⟨rfl, _⟩ := h1'
        cases x <;> simp [fitC] at h2
        cases y <;> simp [fitC] at h2'
        rw [run_equalIn_string w _ t _ _ hu]
        simp only [ceqs, ceq, Bool.and_true, toList_data]
        congr 1
        exact Bool.beq_eq_decide_eq _ _
      case array n e =>
        cases hke : kindsAt P d e with
        | none => simp [hke] at h
        | some js =>
          simp only [hke] at h
          cases hc : Nat.beq js.length (P.cellsOf e) && (match P.info? e with | some _ => true | none => false) with
          | false => simp [hc] at h
          | true =>
            simp only [hc, cond_true, Option.some.injEq] at h
            subst h
            simp only [Bool.and_eq_true] at hc
            have hjl := Nat.eq_of_beq_eq_true hc.1
            obtain ⟨i, hi⟩ : ∃ i, P.info? e = some i := by
              cases hi : P.info? e with
              | none => rw [hi] at hc; simp at hc
              | some i => exact ⟨i, rfl⟩
            simp only [Wrap, hu] at hx hy
            subst hx; subst hy
            rw [run_equalIn_array w (m + d) us.toArray vs.toArray hu hi, List.range_eq_range']
            have l1 := fx.length
            have l2 := fy.length
            rw [repK_length] at l1 l2
            have := items_eq (w := w) (xs := us.toArray) (ys := vs.toArray) (js := js) (dd := m + d) hjl (kinds_one d e js hke) (fun x y us vs a b c d' => ih e js hke m x y us vs a b c d') n 0 (by simpa using l1) (by simpa using l2) (by simpa using fx) (by simpa using fy)
            simpa using this
      case struct fs =>
        cases hst : P.stoodInHeld t with
        | true => simp [hst] at h
        | false =>
          simp only [hst, cond_false] at h
          simp only [Wrap, hu] at hx hy
          subst hx; subst hy
          have hfs : P.fieldsOf t = fs := by simp [Program.fieldsOf, hu]
          rw [run_equalIn_struct w (m + d) t us.toArray vs.toArray (by rw [hfs]; exact hu) hst, hfs]
          have hl := kindsF_len _ _ _ _ h
          have := fields_eq (w := w) (dd := m + d) (xs := us.toArray) (ys := vs.toArray) fs.toList 0 (P.cellsOf t) ks h (by simp [fx.length]; omega) (by simp [fy.length]; omega) (by simpa using fx) (by simpa using fy)
            (fun f hf js hjs => ⟨kinds_one d f.type js hjs, fun x y us vs a b c d' => ih f.type js hjs m x y us vs a b c d'⟩)
          simpa using this
end

theorem kdsB_eq {l m : List Kd} (h : kdsB l m = true) : l = m := by
  induction l generalizing m with
  | nil => cases m <;> simp [kdsB] at h; rfl
  | cons a l ih =>
    cases m with
    | nil => simp [kdsB] at h
    | cons b m =>
      simp only [kdsB, Bool.and_eq_true] at h
      rw [kdB_eq h.1, ih h.2]
def plainK : List Kd → Bool
  | [] => true
  | .l :: _ => false
  | .raw :: _ => false
  | _ :: r => plainK r
def eqB (P : Program) (t : Nat) (I : TI) : Bool :=
  !plainK I.lay || !nilB I.comps || ((match kindsAt P 20 t with | some ks => kdsB ks (cks I.lay) | none => false) && !P.eqGuardType P.depth t &&
    (match P.underlying t with | some (.struct _) => I.st | some (.array _ _) => !I.st && isLay1 I.lay .h | some .bool => !I.st && isLay1 I.lay .b | some (.int k) => !I.st && isLay1 I.lay (.i k) | some .string => !I.st && isLay1 I.lay .s | _ => false))
def eqTabB (P : Program) (tab : List (Nat × TI)) : Bool := tab.all fun p => eqB P p.1 p.2
theorem fit_plain {lay : List Kd} : ∀ {ls : List Leaf}, fitLs lay ls = true → plainK lay = true := by
  induction lay with
  | nil => intro ls _; rfl
  | cons k lay ih =>
    intro ls h
    cases ls with
    | nil => simp [fitLs] at h
    | cons l ls =>
      simp only [fitLs] at h
      cases h1 : fitL k l with
      | false => simp [h1] at h
      | true =>
        simp only [h1, cond_true] at h
        have := ih h
        cases k <;> first | exact this | (cases l <;> simp [fitL] at h1)
theorem binOp_gen {t : TypeId} {x y : Value} (h : (∃ b, x = .bool b) ∨ ∃ cs, x = .agg cs) (op : BinOp) :
    (op = .eql → binOp op t x y = (do pure (.bool (← Op.equal t x y)))) ∧ (op = .neq → binOp op t x y = (do pure (.bool (!(← Op.equal t x y))))) := by
  rcases h with ⟨b, rfl⟩ | ⟨cs, rfl⟩ <;> refine ⟨?_, ?_⟩ <;> rintro rfl <;> cases y <;> rfl
theorem eqTabB_ok {P : Program} {tab : List (Nat × TI)} (h : eqTabB P tab = true) : EqOK P (lookT tab) := by
  intro t I hI hc e w vx vy sx sy b rx ry fx fy shx shy hb n1 n2
  have hr := List.all_eq_true.1 h (t, I) (lookT_mem hI)
  simp only [eqB, fit_plain fx, Bool.not_true, Bool.false_or] at hr
  rw [hc] at hr
  simp only [nilB, Bool.not_true, Bool.false_or, Bool.and_eq_true, Bool.not_eq_true'] at hr
  obtain ⟨⟨hk, hg⟩, hd⟩ := hr
  cases hks : kindsAt P 20 t with
  | none => simp [hks] at hk
  | some ks =>
    simp only [hks] at hk
    have hk := kdsB_eq hk
    subst hk
    -- the cells of both
    have cells : ∀ (v : Value) (s : Slot), SlotRep e v s → fitLs I.lay (slotLeaves s) = true → shapeB I.st s = true → (∃ us, Wrap P t v us ∧ LeavesRep e us (slotLeaves s)) ∧ ((∃ b, v = .bool b) ∨ (∃ cs, v = .agg cs) ∨ (∃ k n, s = .sc (.p (.i k n))) ∨ ∃ l, s = .sc (.p (.s l))) := by
      intro v s hv hf hs
      cases s <;> simp only [shapeB] at hs <;> try (cases hs; done)
      · rename_i l
        have hst : I.st = false := by simpa using hs
        cases hu : P.underlying t with
        | none => simp [hu] at hd
        | some d =>
          simp only [hu] at hd
          cases d <;> simp only [hst, Bool.not_false, Bool.true_and] at hd <;> try (cases hd; done)
          · have hl := isLayOne_eq hd
            rw [hl] at hf
            simp only [slotLeaves, fitLs] at hf
            cases l <;> simp [fitL] at hf
            rename_i m
            cases m <;> simp [fitL] at hf
            have := rep_b hv
            exact ⟨⟨[v], by simp [Wrap, hu], [v], [], rfl, hv, rfl⟩, .inl ⟨_, this⟩⟩
          · have hl := isLayOne_eq hd
            rw [hl] at hf
            simp only [slotLeaves, fitLs] at hf
            cases l <;> simp [fitL] at hf
            rename_i m
            cases m <;> simp [fitL] at hf
            exact ⟨⟨[v], by simp [Wrap, hu], [v], [], rfl, hv, rfl⟩, .inr (.inr (.inl ⟨_, _, rfl⟩))⟩
          · have hl := isLayOne_eq hd
            rw [hl] at hf
            simp only [slotLeaves, fitLs] at hf
            cases l <;> simp [fitL] at hf
            rename_i m
            cases m <;> simp [fitL] at hf
            exact ⟨⟨[v], by simp [Wrap, hu], [v], [], rfl, hv, rfl⟩, .inr (.inr (.inr ⟨_, rfl⟩))⟩
          · have hl := isLayOne_eq hd
            rw [hl] at hf
            simp only [slotLeaves, fitLs] at hf
            cases l <;> simp [fitL] at hf
            rename_i x
            have hv : v = .agg (hcells x).toArray := hv
            exact ⟨⟨hcells x, by simp [Wrap, hu, hv], hcells x, [], by simp, rfl, rfl⟩, .inr (.inl ⟨_, hv⟩)⟩
      · rename_i cs
        cases hu : P.underlying t with
        | none => simp [hu] at hd
        | some d =>
          simp only [hu] at hd
          cases d <;> simp only [hs, Bool.not_true, Bool.false_and] at hd <;> try (cases hd; done)
          obtain ⟨arr, hv, hlv⟩ := hv
          exact ⟨⟨arr.toList, by simp [Wrap, hu, hv], hlv⟩, .inr (.inl ⟨_, hv⟩)⟩
    obtain ⟨⟨us, wx, lx⟩, kx⟩ := cells vx sx rx fx shx
    obtain ⟨⟨vs, wy, ly⟩, ky⟩ := cells vy sy ry fy shy
    have heq : (Op.equal t vx vy).run P w = .ok b w := by
      have := equal_cells (P := P) (w := w) 20 t _ hks 9980 vx vy us vs wx wy (fit_cells lx fx) (fit_cells ly fy)
      rw [eq_cells lx ly hb] at this
      exact this
    refine ⟨heq, fun x y op => ?_⟩
    have hxk : (∃ b, vx = .bool b) ∨ ∃ cs, vx = .agg cs := by
      rcases kx with h1 | h1 | ⟨k, n, h1⟩ | ⟨l, h1⟩
      · exact .inl h1
      · exact .inr h1
      · exfalso
        -- both are numbers
        subst h1
        cases hu : P.underlying t with
        | none => simp [hu] at hd
        | some d =>
          simp only [slotLeaves] at fx fy hb
          cases hlay : I.lay with
          | nil => rw [hlay] at fx; simp [fitLs] at fx
          | cons k0 r0 =>
            rw [hlay] at fx fy
            simp only [fitLs] at fx
            cases k0 <;> simp [fitL] at fx
            obtain ⟨hk0, hr0⟩ := fx
            have hr0 : r0 = [] := by cases r0 <;> simp [fitLs] at hr0; rfl
            subst hr0
            cases sy <;> simp only [shapeB] at shx shy <;> try (cases shy; done)
            · rename_i l
              simp only [slotLeaves, fitLs] at fy
              cases l <;> simp [fitL] at fy
              rename_i m
              cases m <;> simp [fitL] at fy
              exact n1 _ _ _ _ rfl rfl
            · rw [shy] at shx; cases shx
      · exfalso
        subst h1
        simp only [slotLeaves] at fx fy hb
        cases hlay : I.lay with
        | nil => rw [hlay] at fx; simp [fitLs] at fx
        | cons k0 r0 =>
          rw [hlay] at fx fy
          simp only [fitLs] at fx
          cases k0 <;> simp [fitL] at fx
          have hr0 : r0 = [] := by cases r0 <;> simp [fitLs] at fx; rfl
          subst hr0
          cases sy <;> simp only [shapeB] at shx shy <;> try (cases shy; done)
          · rename_i l
            simp only [slotLeaves, fitLs] at fy
            cases l <;> simp [fitL] at fy
            rename_i m
            cases m <;> simp [fitL] at fy
            exact n2 _ _ rfl rfl
          · rw [shy] at shx; cases shx
    refine ⟨?_, binOp_gen hxk op⟩
    have hg' : P.eqGuardType P.depth t = false := hg
    rcases hxk with ⟨bb, rfl⟩ | ⟨cs, rfl⟩
    · cases op <;> rfl
    · cases vy <;> cases op <;> first | rfl | (simp [eqGuard, hg'])

end Dn
/-
  A program's types of maps, looked through. Conditions: none.
-/
set_option linter.unusedSimpArgs false
set_option linter.unusedVariables false
set_option linter.constructorNameAsVariable false
namespace Dn
open Go

theorem mvs_fit {lay : List Kd} : ∀ {ks : List MV}, fitMs lay ks = true → fitCs (cks lay) (ks.flatMap mvV) := by
  induction lay with
  | nil => intro ks h; cases ks with | nil => rfl | cons => simp [fitMs] at h
  | cons k lay ih =>
    intro ks h
    cases ks with
    | nil => simp [fitMs] at h
    | cons m ks =>
      simp only [fitMs, Bool.and_eq_true] at h
      have h2 := ih h.2
      have h1 := h.1
      cases k <;> cases m <;> simp only [fitM] at h1 <;> try (cases h1; done)
      · exact ⟨_, _, rfl, rfl, h2⟩
      · exact ⟨_, _, rfl, h1, h2⟩
      · exact ⟨_, _, rfl, rfl, h2⟩
      · exact (fitCs_hash _).append h2
theorem mvs_ceq {lay : List Kd} : ∀ {a b : List MV}, fitMs lay a = true → fitMs lay b = true → ceqs (a.flatMap mvV) (b.flatMap mvV) = mvsEq b a := by
  induction lay with
  | nil =>
    intro a b ha hb
    cases a <;> cases b <;> simp [fitMs] at ha hb
    rfl
  | cons k lay ih =>
    intro a b ha hb
    cases a with
    | nil => simp [fitMs] at ha
    | cons x a =>
      cases b with
      | nil => simp [fitMs] at hb
      | cons y b =>
        simp only [fitMs, Bool.and_eq_true] at ha hb
        have ih := ih ha.2 hb.2
        have h1 := ha.1
        have h2 := hb.1
        cases k <;> cases x <;> simp only [fitM] at h1 <;> try (cases h1; done)
        all_goals cases y <;> simp only [fitM] at h2 <;> try (cases h2; done)
        · rename_i p q
          simp only [List.flatMap_cons, mvV, List.cons_append, List.nil_append, ceqs, ceq, mvsEq, mvEq, ih]
          congr 1; rw [decide_eq_decide]; exact eq_comm
        · rename_i k1 p k2 q
          have e1 := of_decide_eq_true h1
          have e2 := of_decide_eq_true h2
          subst e1; subst e2
          simp only [List.flatMap_cons, mvV, List.cons_append, List.nil_append, ceqs, ceq, mvsEq, mvEq, ih, decide_true, Bool.true_and]
          congr 1; rw [decide_eq_decide]; exact eq_comm
        · rename_i p q
          simp only [List.flatMap_cons, mvV, List.cons_append, List.nil_append, ceqs, ceq, mvsEq, mvEq, ih]
          congr 1; rw [decide_eq_decide]; simp [eq_comm]
        · rename_i p q
          simp only [List.flatMap_cons, mvV, mvsEq, mvEq]
          rw [ceqs_append (by rw [hcells_length, hcells_length]), ceqs_hash, ih]
          congr 1; rw [decide_eq_decide]; exact eq_comm

def basicD : TypeDesc → Bool
  | .bool | .int _ | .string => true
  | _ => false
/-- fields of one cell each, of basic types -/
def keyFs (P : Program) (n : Nat) (fs : List Field) : Bool := fs.all fun f => (match P.underlying f.type with | some d => basicD d | none => false) && Nat.ble (f.offset + 1) n
def keyTB (P : Program) (kt : Nat) (I : TI) : Bool := match P.underlying kt with
  | some .bool => !I.st && isLay1 I.lay .b
  | some (.int k) => !I.st && isLay1 I.lay (.i k)
  | some .string => !I.st && isLay1 I.lay .s
  | some (.struct fs) => I.st && (match kindsAt P 20 kt with | some ks => kdsB ks (cks I.lay) | none => false) && keyFs P (cks I.lay).length fs.toList
  | _ => false
def zeroB (b : Bool) : Option Value → Bool
  | some (.bool false) => b
  | some (.int .i64 n) => !b && decide (n = 0)
  | _ => false
def mapB (P : Program) (ti : Nat → Option TI) (t kt : Nat) (b : Bool) : Bool := match P.underlying t with
  | some (.map kt' el) => Nat.beq kt' kt && (match P.info? el with | some i => zeroB b i.zero | none => false) && (match ti kt with | some I => nilB I.comps && keyTB P kt I | none => false)
  | _ => false
def lookM : List (Nat × (Nat × Bool)) → Nat → Option (Nat × Bool)
  | [], _ => none
  | (k, s) :: r, t => bif Nat.beq k t then some s else lookM r t
theorem lookM_mem {l : List (Nat × (Nat × Bool))} {t : Nat} {I : Nat × Bool} (h : lookM l t = some I) : (t, I) ∈ l := by
  induction l with
  | nil => simp [lookM] at h
  | cons p l ih =>
    obtain ⟨k, s⟩ := p
    simp only [lookM, nbeq] at h
    by_cases hk : k = t
    · subst hk; simp at h; subst h; simp
    · simp only [hk, decide_false, cond_false] at h
      exact List.mem_cons_of_mem _ (ih h)
def mapTabB (P : Program) (ti : Nat → Option TI) (l : List (Nat × (Nat × Bool))) : Bool := l.all fun p => mapB P ti p.1 p.2.1 p.2.2

theorem fit_one {k : Kd} {ks : List MV} (h : fitMs [k] ks = true) : ∃ m, ks = [m] ∧ fitM k m = true := by
  cases ks with
  | nil => simp [fitMs] at h
  | cons m r =>
    cases r with
    | cons => simp [fitMs] at h
    | nil => exact ⟨m, rfl, by simpa [fitMs] using h⟩
theorem run_checkKey_basic {P : Program} {t : TypeId} {d : TypeDesc} (hu : P.underlying t = some d) (hd : basicD d = true) (em : Bool) (n : Nat) (v : Value) (w : World) : (Instr.checkKey em (n + 1) t v).run P w = .ok () w := by
  rw [Instr.checkKey]
  simp only [Sem.run_bind, run_underlying hu, Result.andThen]
  cases d <;> simp [basicD] at hd <;> cases v <;> rfl
theorem run_part_basic {P : Program} {t : TypeId} {d : TypeDesc} (hu : P.underlying t = some d) (hd : basicD d = true) {xs : Array Value} {off : Nat} (h : off < xs.size) (w : World) : (Go.part t xs off).run P w = .ok xs[off] w := by
  cases d <;> simp [basicD] at hd <;> simp [Go.part, isAgg, run_underlying hu, h]
theorem mapTabB_ok {P : Program} {c : Ctx} {l : List (Nat × (Nat × Bool))} (h : mapTabB P c.ti l = true) (hm : ∀ t p, c.mt t = some p → lookM l t = some p) : MapTys P c := by
  intro t s hs
  unfold msOf at hs
  cases hmt : c.mt t with
  | none => simp [hmt] at hs
  | some p =>
    obtain ⟨kt, b⟩ := p
    simp only [hmt] at hs
    cases hI : c.tv kt with
    | none => simp [hI] at hs
    | some I =>
      simp only [hI] at hs
      cases hit : isIt ⟨I.st, I.lay, b⟩ with
      | true => simp [hit] at hs
      | false =>
      simp only [hit, cond_false, Option.some.injEq] at hs
      subst hs
      obtain ⟨hI1, hI2⟩ := tv_some hI
      have hb := List.all_eq_true.1 h _ (lookM_mem (hm t _ hmt))
      simp only [mapB] at hb
      split at hb
      · rename_i kt' el hu
        simp only [Bool.and_eq_true] at hb
        obtain ⟨⟨hb1, hb2⟩, hb3⟩ := hb
        have hb1 := Nat.eq_of_beq_eq_true hb1
        subst hb1
        split at hb2
        · rename_i inf hinf
          rw [hI1] at hb3
          simp only [Bool.and_eq_true] at hb3
          have hk := hb3.2
          have hz : ∀ w : World, (zeroValue el).run P w = .ok (valV b (zeroM b)) w := by
            intro w
            have : inf.zero = some (valV b (zeroM b)) := by
              generalize inf.zero = z at hb2
              unfold zeroB at hb2
              split at hb2
              · subst hb2; rfl
              · simp only [Bool.and_eq_true, Bool.not_eq_true'] at hb2
                obtain ⟨h1, h2⟩ := hb2
                subst h1
                rw [of_decide_eq_true h2]; rfl
              · cases hb2
            simp [zeroValue, typeInfo, hinf, this]
          unfold keyTB at hk
          refine ⟨kt', el, hu, hz, ?_⟩
          split at hk
          · rename_i hd
            simp only [Bool.and_eq_true, Bool.not_eq_true'] at hk
            have hl := isLayOne_eq hk.2
            refine ⟨fun em ks w hf => run_checkKey_basic hd rfl em 9999 _ w, _, hd, .inl fun a b' ha hb' => ?_⟩
            rw [hl] at ha hb'
            obtain ⟨x, rfl, hx⟩ := fit_one ha
            obtain ⟨y, rfl, hy⟩ := fit_one hb'
            cases x <;> simp [fitM] at hx
            cases y <;> simp [fitM] at hy
            rename_i p q
            simp only [hk.1, keyV, Instr.sameNow, mvsEq, mvEq, Bool.and_true]
            congr 1; rw [Bool.eq_iff_iff]; simp only [beq_iff_eq, decide_eq_true_eq]; exact eq_comm
          · rename_i k hd
            simp only [Bool.and_eq_true, Bool.not_eq_true'] at hk
            have hl := isLayOne_eq hk.2
            refine ⟨fun em ks w hf => run_checkKey_basic hd rfl em 9999 _ w, _, hd, .inl fun a b' ha hb' => ?_⟩
            rw [hl] at ha hb'
            obtain ⟨x, rfl, hx⟩ := fit_one ha
            obtain ⟨y, rfl, hy⟩ := fit_one hb'
            cases x <;> simp [fitM] at hx
            cases y <;> simp [fitM] at hy
            subst hx; subst hy
            rename_i p q
            simp only [hk.1, keyV, Instr.sameNow, mvsEq, mvEq, Bool.and_true, if_true, decide_true, Bool.true_and]
            congr 1; rw [Bool.eq_iff_iff]; simp only [beq_iff_eq, decide_eq_true_eq]; exact eq_comm
          · rename_i hd
            simp only [Bool.and_eq_true, Bool.not_eq_true'] at hk
            have hl := isLayOne_eq hk.2
            refine ⟨fun em ks w hf => run_checkKey_basic hd rfl em 9999 _ w, _, hd, .inl fun a b' ha hb' => ?_⟩
            rw [hl] at ha hb'
            obtain ⟨x, rfl, hx⟩ := fit_one ha
            obtain ⟨y, rfl, hy⟩ := fit_one hb'
            cases x <;> simp [fitM] at hx
            cases y <;> simp [fitM] at hy
            rename_i p q
            simp only [hk.1, keyV, Instr.sameNow, mvsEq, mvEq, Bool.and_true]
            congr 1; rw [beq_toListBytes, ByteArray.toList_eq, ByteArray.toList_eq, Bool.eq_iff_iff]; simp only [beq_iff_eq, decide_eq_true_eq, List.toList_toArray]; exact eq_comm
          · rename_i fs hd
            simp only [Bool.and_eq_true] at hk
            obtain ⟨⟨hst, hkk⟩, hfs⟩ := hk
            split at hkk
            · rename_i ks hks
              have hkk := kdsB_eq hkk
              subst hkk
              have hkv : ∀ q, keyV true q = .agg (q.flatMap mvV).toArray := by intro q; rfl
              refine ⟨fun em q w hf => ?_, _, hd, .inr fun x y hx hy => ⟨?_, fun w => ?_⟩⟩
              · have hlen : (q.flatMap mvV).length = (cks I.lay).length := (mvs_fit hf).length
                rw [hst, hkv, show (10000 : Nat) = 9999 + 1 from rfl, Instr.checkKey]
                simp only [Sem.run_bind, run_underlying hd, Result.andThen_ok]
                rw [← Array.forIn_toList]
                have each : ∀ f ∈ fs.toList, (∃ d, P.underlying f.type = some d ∧ basicD d = true) ∧ f.offset < (q.flatMap mvV).toArray.size := by
                  intro f hf
                  have := List.all_eq_true.1 hfs f hf
                  simp only [Bool.and_eq_true] at this
                  obtain ⟨h1, h2⟩ := this
                  split at h1
                  · rename_i d hd; exact ⟨⟨d, hd, h1⟩, by have := Nat.le_of_ble_eq_true h2; simp only [List.size_toArray]; omega⟩
                  · cases h1
                clear hfs
                generalize fs.toList = L at each
                generalize (q.flatMap mvV).toArray = xs at each
                induction L with
                | nil => simp
                | cons f L ih =>
                  obtain ⟨⟨d, h1, h2⟩, h3⟩ := each f (by simp)
                  have hb1 := run_checkKey_basic h1 h2 em 9998 xs[f.offset] w
                  have hb2 := run_part_basic (P := P) h1 h2 h3 w
                  by_cases hn : f.name = "_"
                  · simp only [List.forIn_cons, Sem.run_bind, hn, ne_eq, not_true_eq_false, if_false, Result.andThen_ok, Sem.run_pure]
                    exact ih (fun y hy => each y (by simp [hy]))
                  · simp only [List.forIn_cons, Sem.run_bind, hn, ne_eq, not_false_eq_true, if_true, Result.andThen_ok, hb1, hb2, Sem.run_pure]
                    exact ih (fun y hy => each y (by simp [hy]))
              · rw [hst, hkv, hkv]; rfl
              · rw [hst, hkv, hkv]
                have := equal_cells (P := P) (w := w) 20 kt' _ hks 9980 (.agg (x.flatMap mvV).toArray) (.agg (y.flatMap mvV).toArray) (x.flatMap mvV) (y.flatMap mvV) (by simp [Wrap, hd]) (by simp [Wrap, hd]) (mvs_fit hx) (mvs_fit hy)
                rw [mvs_ceq hx hy] at this
                exact this
            · cases hkk
          · cases hk
        · cases hb2
      · cases hb
end Dn
/-
  Operations whose order is open. Conditions: none.
-/
set_option linter.unusedSimpArgs false
set_option linter.unusedVariables false
namespace Dn
open Go

section
variable {P : Program} {c : Ctx} {ops : Array Oper} {N : Act → World → Prop}

/-- only the normal end -/
def Only (N : Act → World → Prop) : Exit → Act → World → Prop
  | .normal, a, w => N a w
  | _, _, _ => False
def growAt (c : Ctx) (oi : Oper) (ops : Array Oper) (i : Nat) : Bool := match ops[i]? with | some o => grAt c o || entOK oi o | none => true
/-- every order, with what is known of the memory -/
def anyG (P : Program) (c : Ctx) (ops : Array Oper) (N : Act → World → Prop) (φ : Ph) : Nat → Array Bool → Act → World → Prop
  | 0, listed, a, w => Region.ready .any ops listed = [] ∧ N a w
  | fuel + 1, listed, a, w => (Region.ready .any ops listed = [] → N a w) ∧
    ∀ i ∈ Region.ready .any ops listed, wpOp P ops (Only N) i (fun a' w' => ((∀ oi, growAt c oi ops i = true → GrowFor c oi w w') ∧ Imm φ w') ∧ anyG P c ops N φ fuel (listed.setIfInBounds i true) a' w') a w
theorem anyG_mono {φ φ' : Ph} (hp : PhLe φ φ') : ∀ (fuel : Nat) (listed : Array Bool) (a : Act) (w : World), anyG P c ops N φ' fuel listed a w → anyG P c ops N φ fuel listed a w := by
  intro fuel
  induction fuel with
  | zero => intro listed a w h; exact h
  | succ fuel ih => intro listed a w h; exact ⟨h.1, fun i hi => wpOp_mono (fun a w h => ⟨⟨h.1.1, fun b o v hv => h.1.2 b o v (hp b o v hv)⟩, ih _ _ _ h.2⟩) (h.2 i hi)⟩
theorem anyG_any {φ : Ph} : ∀ (fuel : Nat) (listed : Array Bool) (a : Act) (w : World), anyG P c ops N φ fuel listed a w → wpAny P .any ops (Only N) fuel listed a w := by
  intro fuel
  induction fuel with
  | zero => intro listed a w h; exact h
  | succ fuel ih => intro listed a w h; exact ⟨h.1, fun i hi => wpOp_mono (fun a w h => ih _ _ _ h.2) (h.2 i hi)⟩

theorem entOK_same {oi oj p : Oper} {w w' : World} (h1 : entOK oi p = true) (h2 : entOK oj p = true) (h : GrowFor c oi w w') : GrowFor c oj w w' := by
  unfold entOK at h1 h2
  split at h1
  · rename_i t t' g1 g2
    split at h2
    · rename_i u u' g3 g4
      rw [g2] at g4
      cases g4
      have e1 := Nat.eq_of_beq_eq_true h1
      have e2 := Nat.eq_of_beq_eq_true h2
      subst e1; subst e2
      simpa [GrowFor, lkMS, g1, g3] using h
    · cases h2
  · cases h1

theorem op_put {j : Nat} {oi oj : Oper} {v : Value} (hj : ops[j]? = some oj) (hap : oi.apart ops oj = true)
    (hsi : ∀ cs b, oi.op ≠ .select cs b) (hsj : ∀ cs b, oj.op ≠ .select cs b) {K : Act → World → Prop} {a : Act} {w : World} (h : wpOp P ops (Only N) j K (a.put oi.dst v) w) :
    wpOp P ops (Only N) j (fun a' w' => (execOp a'.eval oi = execOp a.eval oi ∧ Region.wanted oi (yielded ops a'.tmps) = Region.wanted oi (yielded ops a.tmps)) ∧ K (a'.put oi.dst v) w') a w := by
  obtain ⟨h1, h2, h3⟩ := Oper.apart_spec hap
  have keep : ∀ (a : Act) (u : Value), execOp (a.put oj.dst u).eval oi = execOp a.eval oi ∧ Region.wanted oi (yielded ops (a.put oj.dst u).tmps) = Region.wanted oi (yielded ops a.tmps) :=
    fun a u => ⟨execOp_put oi hsi a oj.dst u h3, wanted_put oi a oj.dst u h3⟩
  unfold wpOp at *
  simp only [hj] at *
  rw [wanted_put oj a oi.dst v h1] at h
  split
  · rename_i hw
    simp only [hw, if_true] at h
    rcases h with h | ⟨hasks, hlets⟩
    case inr => obtain ⟨_, _, hf⟩ := hlets; exact hf.elim
    refine .inl ?_
    unfold Oper.wp at *
    rw [execOp_put oj hsj a oi.dst v h1] at h
    generalize (execOp a.eval oj).run P w = r at *
    cases r with
    | ok n w' =>
      cases n <;> simp only [Oper.upon] at h ⊢
      case value u => exact ⟨keep a u, by rw [← Act.put_comm a v u h2]; exact h⟩
      case skip => exact ⟨keep a _, by rw [← Act.put_comm a v undef h2]; exact h⟩
      case defer d =>
        refine ⟨keep _ _, ?_⟩
        rw [← Act.put_comm _ v undef h2, ← Act.put_defers]
        exact h
      case enter f args =>
        refine Calls.mono h fun x w'' he => ?_
        cases x with
        | returned u => exact ⟨keep a u, by rw [← Act.put_comm a v u h2]; exact he⟩
        | panicked c => exact he
        | outgrown => exact he
      case row row args => exact Rows.mono h fun u w'' he => ⟨keep a u, by rw [← Act.put_comm a v u h2]; exact he⟩
    | halt x w' =>
      cases x <;> simp only [Oper.upon] at h ⊢
      case panic u => exact h
  · rename_i hw
    simp only [hw] at h
    exact ⟨keep a _, by rw [← Act.put_comm a v undef h2]; exact h⟩

/-- what an operation yields, in a memory and in those that come of it -/
def YieldsW (P : Program) (c : Ctx) (ops : Array Oper) (φ : Ph) (o : Oper) (v : Value) (a : Act) (w : World) : Prop :=
  (Region.wanted o (yielded ops a.tmps) = true ∧ ∀ w', (isLd o = true → (still c o = false → GrowFor c o w w') ∧ Imm φ w') → (execOp a.eval o).run P w' = .ok (.value v) w') ∨
  (Region.wanted o (yielded ops a.tmps) = false ∧ v = undef)
theorem anyG_first {φ : Ph} {i : Nat} {oi : Oper} {v : Value} {D : List Nat} (hD : ∀ j oj, j ∈ D → j ≠ i → ops[j]? = some oj → ∃ e ∈ oj.after, Region.binds .any e = true ∧ e.on ∈ D) (hi : ops[i]? = some oi) (hsel : ∀ (j : Nat) (o : Oper) cs b, ops[j]? = some o → o.op ≠ .select cs b) :
    ∀ (fuel : Nat) (listed : Array Bool) (a : Act) (w : World),
      (∀ j oj, ops[j]? = some oj → j ∉ D → j ≠ i → listed.getD j true = false → oi.apart ops oj = true ∧ (isLd oi = true → still c oi = false → growAt c oi ops j = true)) → (∀ d ∈ D, listed.getD d false = false) →
      i ∈ Region.ready .any ops listed → YieldsW P c ops φ oi v a w → Imm φ w →
      anyG P c ops N φ fuel (listed.setIfInBounds i true) (a.put oi.dst v) w → anyG P c ops N φ (fuel + 1) listed a w := by
  have self : ∀ (fuel : Nat) (listed : Array Bool) (a : Act) (w : World), YieldsW P c ops φ oi v a w → Imm φ w → anyG P c ops N φ fuel (listed.setIfInBounds i true) (a.put oi.dst v) w →
      wpOp P ops (Only N) i (fun a' w' => ((∀ oi, growAt c oi ops i = true → GrowFor c oi w w') ∧ Imm φ w') ∧ anyG P c ops N φ fuel (listed.setIfInBounds i true) a' w') a w := by
    intro fuel listed a w hy hm H
    unfold wpOp
    simp only [hi]
    rcases hy with ⟨hw, hv⟩ | ⟨hw, rfl⟩
    · simp only [hw, if_true, Oper.wp, hv w (fun _ => ⟨fun _ => (Grow.refl w).for, hm⟩), Oper.upon]
      exact .inl ⟨⟨fun _ _ => (Grow.refl w).for, hm⟩, H⟩
    · simp only [hw, Bool.false_eq_true, if_false]
      exact ⟨⟨fun _ _ => (Grow.refl w).for, hm⟩, H⟩
  intro fuel
  induction fuel with
  | zero =>
    intro listed a w _ _ hr hy hm H
    refine ⟨fun h => (by rw [h] at hr; cases hr), fun j hj => ?_⟩
    by_cases hji : j = i
    · subst hji; exact self 0 listed a w hy hm H
    · have := ready_mono hj hji
      rw [H.1] at this
      cases this
  | succ fuel ih =>
    intro listed a w hfree hdis hr hy hm H
    refine ⟨fun h => (by rw [h] at hr; cases hr), fun j hj => ?_⟩
    by_cases hji : j = i
    · subst hji; exact self (fuel + 1) listed a w hy hm H
    · have h1 := H.2 j (ready_mono hj hji)
      obtain ⟨hjun, oj, hoj, hall⟩ := mem_ready.1 hj
      have hjD : j ∉ D := by
        intro hjd
        obtain ⟨e, he, hb, hon⟩ := hD j oj hjd hji hoj
        have h1 := hall e he hb
        rw [hdis e.on hon] at h1; cases h1
      obtain ⟨hap, hgr⟩ := hfree j oj hoj hjD hji hjun
      have h2 := op_put hoj hap (fun cs b => hsel i oi cs b hi) (fun cs b => hsel j oj cs b hoj) h1
      have hdis' : ∀ d ∈ D, (listed.setIfInBounds j true).getD d false = false := by
        intro d hd
        rw [getD_set_ne false (fun he => hjD (by rw [he]; exact hd))]; exact hdis d hd
      have hfree' : ∀ k ok, ops[k]? = some ok → k ∉ D → k ≠ i → (listed.setIfInBounds j true).getD k true = false → oi.apart ops ok = true ∧ (isLd oi = true → still c oi = false → growAt c oi ops k = true) := fun k ok hk hkD hki hun => by
        refine hfree k ok hk hkD hki ?_
        by_cases hjk : j = k
        · subst hjk; exact hjun
        · rw [getD_set_ne true hjk] at hun; exact hun
      refine wpOp_mono (fun a' w' h3 => ⟨h3.2.1, ih (listed.setIfInBounds j true) a' w' hfree' hdis' (ready_mono hr (Ne.symm hji)) ?_ h3.2.1.2 ?_⟩) h2
      · obtain ⟨⟨he, hwn⟩, ⟨hg, _⟩, _⟩ := h3
        rcases hy with ⟨hw, hv⟩ | ⟨hw, rfl⟩
        · refine .inl ⟨by rw [hwn]; exact hw, fun w'' hg2 => ?_⟩
          rw [he]
          exact hv w'' (fun hl => ⟨fun hs => (hg oi (hgr hl hs)).trans ((hg2 hl).1 hs), (hg2 hl).2⟩)
        · exact .inr ⟨by rw [hwn]; exact hw, rfl⟩
      · rw [Array.setIfInBounds_comm _ _ hji]
        exact h3.2.2

variable {Z : Zone} {R : Type} {K : St → Option R} {r : R}

theorem opndsL_eq (op : Op) : opndsL op = op.operands.toList := by
  cases op <;> first | rfl | simp [opndsL, Op.operands, Call.operands]
  all_goals first | rfl | (rename_i c; cases c.callee <;> simp)
theorem tmpsL_eq (l : List Operand) : tmpsL l = l.filterMap fun | .tmp t => some t | _ => none := by
  induction l with
  | nil => rfl
  | cons x l ih => cases x <;> simp [tmpsL, ih]
theorem looksL_eq (o : Oper) : looksL ops.toList o = o.looksAt ops := by
  unfold looksL Oper.looksAt
  rw [opndsL_eq, tmpsL_eq]
  congr 1
  cases o.guard with
  | none => rfl
  | some g =>
    obtain ⟨g, wnt⟩ := g
    simp only [Array.getElem?_toList]
    cases ops[g]? <;> rfl
theorem apartL_ok {x y : Oper} (h : apartL ops.toList x y = true) : x.apart ops y = true := by
  unfold apartL at h
  unfold Oper.apart
  rw [looksL_eq, looksL_eq] at h
  have hn : ∀ (l : List Nat) (d : Nat), nmem l d = l.contains d := by
    intro l d
    have := nmem_iff l d
    cases h1 : nmem l d <;> cases h2 : l.contains d <;> simp_all
  cases hx : x.dst <;> cases hy : y.dst <;> simp_all [bne, nbeq]
theorem bindsB_eq (e : Edge) : bindsB e = Region.binds .any e := by
  unfold bindsB Region.binds
  cases e.ground <;> rfl
/-- which operations are done -/
structure Lst (ops : Array Oper) (listed : Array Bool) (pre : List Nat) : Prop where
  size : listed.size = ops.size
  mem : ∀ i, i < ops.size → (listed.getD i true = true ↔ i ∈ pre)
theorem Lst.set {listed : Array Bool} {pre : List Nat} {x : Nat} (h : Lst ops listed pre) (hx : x < ops.size) : Lst ops (listed.setIfInBounds x true) (x :: pre) := by
  refine ⟨by simpa using h.size, fun i hi => ?_⟩
  by_cases hix : x = i
  · subst hix
    have : x < listed.size := by rw [h.size]; exact hx
    simp [this]
  · rw [getD_set_ne true hix, h.mem i hi]
    simp only [List.mem_cons]
    exact ⟨.inr, fun hh => hh.resolve_left (fun he => hix he.symm)⟩
theorem Lst.false_of {listed : Array Bool} {pre : List Nat} {i : Nat} (h : Lst ops listed pre) (hi : i < ops.size) : listed.getD i true = false ↔ i ∉ pre := by
  rw [← h.mem i hi]; cases listed.getD i true <;> simp
theorem Lst.done {listed : Array Bool} {pre : List Nat} {i : Nat} (h : Lst ops listed pre) (hi : i < ops.size) : listed.getD i false = true ↔ i ∈ pre := by
  rw [← h.mem i hi]
  have hl : i < listed.size := by rw [h.size]; exact hi
  simp [hl]

theorem drawFrom_fresh : ∀ (rest pre : List Nat), drawFrom c ops.toList pre rest = true → ∀ z ∈ rest, z ∉ pre := by
  intro rest
  induction rest with
  | nil => intro pre _ z hz; cases hz
  | cons y rest ihr =>
    intro pre hd z hz
    simp only [drawFrom] at hd
    cases hy : ops.toList[y]? with
    | none => simp [hy] at hd
    | some oy =>
      simp only [hy, Bool.and_eq_true, Bool.not_eq_true'] at hd
      rcases List.mem_cons.1 hz with rfl | hz
      · rw [← nmem_iff, hd.1.1.1.2]; simp
      · exact fun hzp => ihr (y :: pre) hd.2 z hz (by simp [hzp])
theorem freeRest_spec {o : Oper} {x : Nat} : ∀ (rest D0 : List Nat), freeRest c ops.toList o D0 rest = true → (∀ y, y ∈ D0 → y ≠ x → ∃ p, ops[y]? = some p ∧ ∃ e ∈ p.after, Region.binds .any e = true ∧ e.on ∈ D0) →
    ∃ D : List Nat, (∀ y ∈ D0, y ∈ D) ∧ (∀ y ∈ D, y ∈ D0 ∨ y ∈ rest) ∧ (∀ j oj, j ∈ D → j ≠ x → ops[j]? = some oj → ∃ e ∈ oj.after, Region.binds .any e = true ∧ e.on ∈ D) ∧
      (∀ y ∈ rest, y ∉ D → ∃ p, ops[y]? = some p ∧ o.apart ops p = true ∧ (isLd o = true → still c o = false → (grAt c p || entOK o p) = true)) := by
  intro rest
  induction rest with
  | nil =>
    intro D0 _ h0
    refine ⟨D0, fun y hy => hy, fun y hy => .inl hy, fun j oj hj hne ho => ?_, fun y hy => by cases hy⟩
    obtain ⟨p, hp, he⟩ := h0 j hj hne
    rw [ho] at hp; cases hp; exact he
  | cons y rest ih =>
    intro D0 h h0
    simp only [freeRest] at h
    cases hy : ops.toList[y]? with
    | none => simp [hy] at h
    | some p =>
      simp only [hy] at h
      have hy' : ops[y]? = some p := by simpa using hy
      cases he : edgeTo p (nmem D0) with
      | true =>
        simp only [he, cond_true] at h
        obtain ⟨D, D1, D2, D3, D4⟩ := ih (y :: D0) h (by
          intro z hz hne
          rcases List.mem_cons.1 hz with rfl | hz
          · unfold edgeTo at he
            obtain ⟨ed, hed, hb⟩ := List.any_eq_true.1 he
            simp only [Bool.and_eq_true, bindsB_eq] at hb
            exact ⟨p, hy', ed, by simpa using hed, hb.1, by simp [(nmem_iff _ _).1 hb.2]⟩
          · obtain ⟨q, hq, ed, h1, h2, h3⟩ := h0 z hz hne
            exact ⟨q, hq, ed, h1, h2, by simp [h3]⟩)
        refine ⟨D, fun z hz => D1 z (by simp [hz]), fun z hz => ?_, D3, fun z hz hzD => ?_⟩
        · rcases D2 z hz with h1 | h1
          · rcases List.mem_cons.1 h1 with h1 | h1
            · exact .inr (by simp [h1])
            · exact .inl h1
          · exact .inr (by simp [h1])
        · rcases List.mem_cons.1 hz with rfl | hz
          · exact absurd (D1 z (by simp)) hzD
          · exact D4 z hz hzD
      | false =>
        simp only [he, cond_false, Bool.and_eq_true, Bool.or_eq_true, Bool.not_eq_true'] at h
        obtain ⟨⟨h1, h2⟩, h3⟩ := h
        obtain ⟨D, D1, D2, D3, D4⟩ := ih D0 h3 h0
        refine ⟨D, D1, fun z hz => (D2 z hz).imp id (fun h => by simp [h]), D3, fun z hz hzD => ?_⟩
        rcases List.mem_cons.1 hz with rfl | hz
        · refine ⟨p, hy', apartL_ok h1, fun hl hs => ?_⟩
          rcases h2 with ((h2 | h2) | h2) | h2
          · rw [hl] at h2; cases h2
          · simp [h2]
          · rw [hs] at h2; cases h2
          · simp [h2]
        · exact D4 z hz hzD

/-- where some variables are made already, that wait to be taken up -/
def Zone.outs (Z : Zone) (bs : List Nat) : Zone := { Z with In := fun b => Z.In b ∧ b ∉ bs, Pr := fun b => Z.Pr b ∧ b ∉ bs }
theorem Sim.widen {Z Z' : Zone} {e : Env} {st : St} {a : Act} {w : World} (h : Sim c Z e st a w) (hI : ∀ b, Z.In b → Z'.In b) (hP : ∀ b, Z.Pr b → Z'.Pr b) (h1 : Z'.prot = Z.prot) (h2 : Z'.pfam = Z.pfam) (h3 : Z'.T = Z.T) (h4 : Z'.cov = Z.cov) : Sim c Z' e st a w := by
  refine ⟨by rw [h1, h2, h3]; exact h.defers, h.size, h.m, h.key, h.nodup, fun t => ?_, h.root, fun f o ho => ?_, h.bb, h.bf, h.ff, h.imm, fun b hb => hI b (h.zone b hb)⟩
  · have hs := h.slot t
    generalize fget st.fr t = s at hs
    cases s <;> simp only [SlotAt] at hs ⊢ <;> first | exact hs | skip
    exact ⟨hs.1, ⟨by rcases hs.2.zone with ⟨x, y⟩ | x; exact .inl ⟨by rw [h1]; exact x, hP _ y⟩; exact .inr (hI _ x), hs.2.obj, hs.2.free⟩⟩
  · obtain ⟨I, cells, g1, g2, g3, g4, g5⟩ := (h.fam f o ho).row
    refine ⟨I, cells, g1, g2, g3, g4, fun blk hb => ?_⟩
    obtain ⟨k1, k2, k3⟩ := g5 blk hb
    refine ⟨?_, k2, fun hc hz j hj => k3 (by have hc : f ∈ Z'.pfam := hc; rw [h2] at hc; exact hc) hz j hj⟩
    rcases k1 with ⟨x, y⟩ | x
    · exact .inl ⟨by rw [h2]; exact x, hP _ y⟩
    · exact .inr (hI _ x)
theorem Sim.narrow {e : Env} {st : St} {a : Act} {w w' : World} {bs : List Nat} (h : Sim c (Z.outs bs) e st a w) (g : Grow w w') (hs : w.heap.size < w'.heap.size) : Sim c (Z.outs (w.heap.size :: bs)) e st a w' := by
  have h' := h.grow g
  have hin : ∀ b, b < w.heap.size → (Z.outs bs).In b → (Z.outs (w.heap.size :: bs)).In b := fun b hb hi => ⟨hi.1, by simp only [List.mem_cons, not_or]; exact ⟨by omega, hi.2⟩⟩
  have hpr : ∀ b, b < w.heap.size → (Z.outs bs).Pr b → (Z.outs (w.heap.size :: bs)).Pr b := fun b hb hi => ⟨hi.1, by simp only [List.mem_cons, not_or]; exact ⟨by omega, hi.2⟩⟩
  refine ⟨h'.defers, h'.size, h'.m, h'.key, h'.nodup, fun t => ?_, h'.root, fun f o ho => ?_, h'.bb, h'.bf, h'.ff, h'.imm, fun b hb => ?_⟩
  · have hs := h.slot t
    have hs' := h'.slot t
    generalize fget st.fr t = s at hs hs'
    cases s <;> simp only [SlotAt] at hs hs' ⊢ <;> first | exact hs' | skip
    obtain ⟨o2, k1, _⟩ := hs.2.obj
    have hl := lt_of_heap k1
    exact ⟨hs'.1, ⟨by rcases hs'.2.zone with ⟨x, y⟩ | x; exact .inl ⟨x, hpr _ hl y⟩; exact .inr (hin _ hl x), hs'.2.obj, hs'.2.free⟩⟩
  · obtain ⟨I, cells, g1, g2, g3, g4, g5⟩ := (h'.fam f o ho).row
    refine ⟨I, cells, g1, g2, g3, g4, fun blk hb => ?_⟩
    obtain ⟨k1, k2, k3⟩ := g5 blk hb
    refine ⟨?_, k2, k3⟩
    have hl : blk < w.heap.size := by
      obtain ⟨I', cells', l1, l2, l3, l4, l5⟩ := (h.fam f o ho).row
      rcases l3.2 with ⟨hv, _⟩ | ⟨gg, cap, cur, hv, _, hg, _⟩
      · rw [hv] at hb; simp [Value.ownBlock] at hb
      · rw [hv] at hb
        simp only [Value.ownBlock, Option.some.injEq] at hb
        have := lt_of_heap hg
        omega
    rcases k1 with ⟨x, y⟩ | x
    · exact .inl ⟨x, hpr _ hl y⟩
    · exact .inr (hin _ hl x)
  · refine ⟨(h.zone b (by omega)).1, ?_⟩
    simp only [List.mem_cons, not_or]
    exact ⟨by omega, (h.zone b (by omega)).2⟩
def vOf (b : Nat) : Value := .pointer (some ⟨b, 0, none⟩)
def dstOf (ops : Array Oper) (i : Nat) : Option Nat := match ops[i]? with
  | some o => o.dst
  | none => none
def puts (ops : Array Oper) : List (Nat × Nat) → Act → Act
  | [], a => a
  | p :: r, a => (puts ops r a).put (dstOf ops p.1) (vOf p.2)
/-- a new variable waits -/
structure Pend (c : Ctx) (Z : Zone) (ops : Array Oper) (e : Env) (w : World) (p : Nat × Nat) : Prop where
  row : ∃ o t I d arr T, ops[p.1]? = some o ∧ isAl o = true ∧ o.op = .alloc t ∧ c.tv t = some I ∧ o.dst = some d ∧ w.heap[p.2]? = some (.cells arr T (0, 0)) ∧ ∀ e' : Env, LeavesRep e' arr.toList I.zero
  free : ∀ off, e.φ p.2 off = none
  zone : Z.In p.2
theorem isAl_spec {o : Oper} (h : isAl o = true) : ∃ t d, o.op = .alloc t ∧ o.dst = some d ∧ o.guard = none ∧ ∀ e ∈ o.after, Region.binds .any e = false := by
  unfold isAl at h
  split at h
  · rename_i t d h1 h2 h3
    refine ⟨t, d, h1, h2, h3, fun e he => ?_⟩
    have := List.all_eq_true.1 h e (by simpa using he)
    simpa [bindsB_eq] using this
  · cases h
theorem alloc_zero {t : TypeId} {I : TI} (hI : c.tv t = some I) (hT : TIok P c.ti) : ∃ i z, P.info? t = some i ∧ i.zero = some z ∧ ∀ e : Env, LeavesRep e z.cells.toList I.zero := by
  obtain ⟨hti, hc⟩ := tv_some hI
  obtain ⟨d, i, h1, h2, h3, h4⟩ := hT t I hti
  suffices hz : ∃ z, i.zero = some z ∧ ∀ e : Env, LeavesRep e z.cells.toList I.zero by
    obtain ⟨z, h5, h6⟩ := hz
    exact ⟨i, z, h2, h5, h6⟩
  cases d <;> simp only [RowD] at h4
  case struct fs => obtain ⟨_, _, _, _, _, _, cs, hz, hl, _⟩ := h4; exact ⟨_, hz, fun e => by simpa [Value.cells] using leavesZ_rep hl⟩
  case tuple ts => exact absurd hc h4.2.1
  case slice el => obtain ⟨_, _, _, _, _, hz, hl, _⟩ := h4; exact ⟨_, hz, fun e => by rw [hl]; exact ⟨[.slice none 0 0], [], rfl, rfl, rfl⟩⟩
  case array n el => obtain ⟨_, _, _, _, _, _, _, hl, hz⟩ := h4; exact ⟨_, hz, fun e => by rw [hl]; exact ⟨hcells Hash.zero, [], by simp [Value.cells], rfl, rfl⟩⟩
  case bool => obtain ⟨_, _, _, _, hl, hz⟩ := h4; exact ⟨_, hz, fun e => by rw [hl]; exact ⟨[.bool false], [], rfl, ⟨rfl, .b _⟩, rfl⟩⟩
  case int k => obtain ⟨_, _, _, _, hl, hz⟩ := h4; exact ⟨_, hz, fun e => by rw [hl]; exact ⟨[.int k 0], [], rfl, ⟨rfl, .i _ _⟩, rfl⟩⟩
  case string =>
    obtain ⟨_, _, _, _, hl, b, hz, hb⟩ := h4
    refine ⟨_, hz, fun e => by rw [hl]; refine ⟨[.string b], [], rfl, ⟨rfl, ?_⟩, rfl⟩; rw [← hb]; exact .s b⟩
  all_goals
    obtain ⟨_, _, _, _, v, hz, hv, hl⟩ := h4
    refine ⟨v, hz, fun e => ?_⟩
    have : v.cells.toList = [v] := by cases v <;> simp_all [Value.cells, Value.oneCell']
    rw [this]; exact leavesZ_rep hl
theorem execOp_puts {o : Oper} (hs : ∀ cs b, o.op ≠ .select cs b) (a : Act) : ∀ (pd : List (Nat × Nat)), (∀ p ∈ pd, ∀ d, dstOf ops p.1 = some d → d ∉ o.looksAt ops) →
    execOp (puts ops pd a).eval o = execOp a.eval o ∧ Region.wanted o (yielded ops (puts ops pd a).tmps) = Region.wanted o (yielded ops a.tmps)
  | [], _ => ⟨rfl, rfl⟩
  | p :: r, h => by
    obtain ⟨h1, h2⟩ := execOp_puts hs a r (fun q hq => h q (by simp [hq]))
    have hp := h p (by simp)
    exact ⟨(execOp_put o hs _ _ _ hp).trans h1, (wanted_put o _ _ _ hp).trans h2⟩
theorem puts_put (a : Act) (y : Option Nat) (v : Value) : ∀ (pd : List (Nat × Nat)), (∀ p ∈ pd, ∀ d, dstOf ops p.1 = some d → y ≠ some d) → (puts ops pd a).put y v = puts ops pd (a.put y v)
  | [], _ => rfl
  | p :: r, h => by
    simp only [puts]
    rw [Act.put_comm _ _ _ (fun d hd => h p (by simp) d hd), puts_put a y v r (fun q hq => h q (by simp [hq]))]
theorem puts_defers (a : Act) : ∀ (pd : List (Nat × Nat)), (puts ops pd a).defers = a.defers
  | [] => rfl
  | p :: r => by
    simp only [puts]
    rw [← puts_defers a r]
    cases dstOf ops p.1 <;> rfl
theorem op_put' {j : Nat} {oj : Oper} {x : Option Nat} {v : Value} (hj : ops[j]? = some oj) (h1 : ∀ d, x = some d → d ∉ oj.looksAt ops) (h2 : ∀ d, x = some d → oj.dst ≠ some d)
    (hsj : ∀ cs b, oj.op ≠ .select cs b) {K : Act → World → Prop} {a : Act} {w : World} (h : wpOp P ops (Only N) j K a w) :
    wpOp P ops (Only N) j (fun a' w' => ∃ a'', a' = a''.put x v ∧ K a'' w') (a.put x v) w := by
  unfold wpOp at *
  simp only [hj] at *
  rw [wanted_put oj a x v h1]
  split
  · rename_i hw
    simp only [hw, if_true] at h
    rcases h with h | ⟨hasks, hlets⟩
    case inr => obtain ⟨_, _, hf⟩ := hlets; exact hf.elim
    refine .inl ?_
    unfold Oper.wp at *
    rw [execOp_put oj hsj a x v h1]
    generalize (execOp a.eval oj).run P w = r at *
    cases r with
    | ok n w' =>
      cases n <;> simp only [Oper.upon] at h ⊢
      case value u => exact ⟨_, Act.put_comm a v u h2, h⟩
      case skip => exact ⟨_, Act.put_comm a v undef h2, h⟩
      case defer d =>
        refine ⟨{ a.put oj.dst undef with defers := d :: (a.put oj.dst undef).defers }, ?_, by simpa [Act.put_defers] using h⟩
        have := Act.put_comm a v undef h2
        cases x <;> cases hd : oj.dst <;> simp_all [Act.put]
      case enter f args =>
        refine Calls.mono h fun y w'' he => ?_
        cases y with
        | returned u => exact ⟨_, Act.put_comm a v u h2, he⟩
        | panicked c => exact he
        | outgrown => exact he
      case row row args => exact Rows.mono h fun u w'' he => ⟨_, Act.put_comm a v u h2, he⟩
    | halt y w' =>
      cases y <;> simp only [Oper.upon] at h ⊢
      case panic u => exact h
  · rename_i hw
    simp only [hw] at h
    exact ⟨_, Act.put_comm a v undef h2, h⟩
theorem op_puts {j : Nat} {oj : Oper} (hj : ops[j]? = some oj) (hsj : ∀ cs b, oj.op ≠ .select cs b) {K : Act → World → Prop} {a : Act} {w : World} (h : wpOp P ops (Only N) j K a w) : ∀ (pd : List (Nat × Nat)),
    (∀ p ∈ pd, ∀ d, dstOf ops p.1 = some d → d ∉ oj.looksAt ops ∧ oj.dst ≠ some d) → wpOp P ops (Only N) j (fun a' w' => ∃ a'', a' = puts ops pd a'' ∧ K a'' w') (puts ops pd a) w
  | [], _ => wpOp_mono (fun a' w' hk => ⟨a', rfl, hk⟩) h
  | p :: r, hp => by
    have h1 := op_puts hj hsj h r (fun q hq => hp q (by simp [hq]))
    have h2 := op_put' (v := vOf p.2) hj (fun d hd => (hp p (by simp) d hd).1) (fun d hd => (hp p (by simp) d hd).2) hsj h1
    refine wpOp_mono ?_ h2
    rintro a' w' ⟨a1, rfl, a2, rfl, hk⟩
    exact ⟨a2, rfl, hk⟩

theorem nodup_len : ∀ {l m : List Nat}, l.Nodup → (∀ x ∈ l, x ∈ m) → l.length ≤ m.length
  | [], m, _, _ => Nat.zero_le _
  | x :: l, m, hn, hs => by
    have hn := List.nodup_cons.1 hn
    have h1 : l.length ≤ (m.erase x).length := nodup_len hn.2 fun y hy => (List.mem_erase_of_ne (fun he => hn.1 (by rw [← he]; exact hy))).2 (hs y (by simp [hy]))
    have h2 := List.length_erase_of_mem (hs x (by simp))
    have h3 : 0 < m.length := List.length_pos_of_mem (hs x (by simp))
    simp only [List.length_cons]; omega
theorem puts_mid {x b : Nat} {o : Oper} (hdo : dstOf ops x = o.dst) (a : Act) (pr : List (Nat × Nat)) : ∀ (pl : List (Nat × Nat)), (∀ p ∈ pl ++ pr, ∀ dd, dstOf ops p.1 = some dd → o.dst ≠ some dd) → puts ops (pl ++ (x, b) :: pr) a = puts ops (pl ++ pr) (a.put o.dst (vOf b))
  | [], h => by
    simp only [List.nil_append, puts, hdo]
    exact puts_put a o.dst (vOf b) pr (fun p hp => h p (by simp [hp]))
  | q :: pl, h => by
    simp only [List.cons_append, puts]
    rw [puts_mid hdo a pr pl (fun p hp => h p (by simp only [List.cons_append, List.mem_cons]; exact .inr hp))]
/-- which operations are done -/
theorem Lst.congr {listed : Array Bool} {l l' : List Nat} (h : Lst ops listed l) (he : ∀ i, i ∈ l ↔ i ∈ l') : Lst ops listed l' := ⟨h.size, fun i hi => by rw [h.mem i hi, he]⟩
theorem freeRest_al {o : Oper} : ∀ (rest D : List Nat), freeRest c ops.toList o D rest = true → ∀ y ∈ rest, ∀ p, ops[y]? = some p → isAl p = true → o.apart ops p = true := by
  intro rest
  induction rest with
  | nil => intro D _ y hy; cases hy
  | cons z rest ih =>
    intro D h y hy p hp hal
    simp only [freeRest] at h
    cases hz : ops.toList[z]? with
    | none => simp [hz] at h
    | some q =>
      simp only [hz] at h
      cases he : edgeTo q (nmem D) with
      | true =>
        simp only [he, cond_true] at h
        rcases List.mem_cons.1 hy with rfl | hy
        · exfalso
          have hz' : ops[y]? = some q := by simpa using hz
          rw [hz'] at hp; cases hp
          obtain ⟨_, _, _, _, _, hne⟩ := isAl_spec hal
          unfold edgeTo at he
          obtain ⟨ed, hed, hb⟩ := List.any_eq_true.1 he
          simp only [Bool.and_eq_true, bindsB_eq] at hb
          rw [hne ed (by simpa using hed)] at hb
          exact absurd hb.1 (by simp)
        · exact ih _ h y hy p hp hal
      | false =>
        simp only [he, cond_false, Bool.and_eq_true] at h
        rcases List.mem_cons.1 hy with rfl | hy
        · have hz' : ops[y]? = some q := by simpa using hz
          rw [hz'] at hp; cases hp
          exact apartL_ok h.1.1
        · exact ih _ h.2 y hy p hp hal
theorem apart_al {o p : Oper} {y : Nat} (hp : ops[y]? = some p) (h : p.apart ops o = true ∨ o.apart ops p = true) : ∀ d, dstOf ops y = some d → d ∉ o.looksAt ops ∧ o.dst ≠ some d := by
  intro d hd
  have hd : p.dst = some d := by simpa [dstOf, hp] using hd
  rcases h with h | h
  · obtain ⟨h1, h2, h3⟩ := Oper.apart_spec h
    exact ⟨h1 d hd, h2 d hd⟩
  · obtain ⟨h1, h2, h3⟩ := Oper.apart_spec h
    exact ⟨h3 d hd, fun he => h2 d he hd⟩
theorem Pend.later {Z : Zone} {bs : List Nat} {e e' : Env} {w w' : World} {p : Nat × Nat} (h : Pend c Z ops e w p) (hb : p.2 ∈ bs) (t : Trans (Z.outs bs).In e.φ w e'.φ w') : Pend c Z ops e' w' p := by
  obtain ⟨o, ty, I, d, arr, T, h1, h2, h3, h4, h5, h6, h7⟩ := h.row
  have hn : ¬ (Z.outs bs).In p.2 := fun hh => hh.2 hb
  exact ⟨⟨o, ty, I, d, arr, T, h1, h2, h3, h4, h5, by rw [t.heap _ hn (lt_of_heap h6)]; exact h6, h7⟩, fun off => by rw [t.free _ off hn]; exact h.free off, h.zone⟩
theorem Trans.wide {Z Z' : Nat → Prop} {φ φ' : Ph} {w w' : World} (t : Trans Z φ w φ' w') (h : ∀ b, Z b → Z' b) : Trans Z' φ w φ' w' :=
  ⟨t.ph, fun b hb hl => t.heap b (fun hz => hb (h b hz)) hl, fun b o hb => t.free b o (fun hz => hb (h b hz)), t.size, t.rest⟩

theorem draw_ok (hG : Good P c) (hsel : ∀ (j : Nat) (o : Oper) cs b, ops[j]? = some o → o.op ≠ .select cs b) {φ0 : Ph} {w0 : World} (hN : ∀ a' w', Out c Z K r φ0 w0 a' w' → N a' w') :
    ∀ (m : Nat) (rest pre : List Nat) (pd : List (Nat × Nat)) (l : List Oper) (listed : Array Bool) (e : Env) (st : St) (a : Act) (w : World), 2 * rest.length - pd.length ≤ m → Sim c (Z.outs (pd.map (·.2))) e st a w → opsK c ops.toList l st K = some r → Trans Z.In φ0 w0 e.φ w → pickOps ops.toList rest = some l →
      drawFrom c ops.toList pre rest = true → Lst ops listed (pd.map (·.1) ++ pre) → (∀ i, i < ops.size → i ∈ pre ∨ i ∈ rest) → (∀ i ∈ pre, i < ops.size) → (∀ p ∈ pd, p.1 ∈ rest) → (pd.map (·.1)).Nodup → (pd.map (·.2)).Nodup → (∀ p ∈ pd, Pend c Z ops e w p) →
      pd.length ≤ rest.length → anyG P c ops N e.φ (rest.length - pd.length) listed (puts ops pd a) w := by
  intro m
  induction m with
  | zero =>
    intro rest pre pd l listed e st a w hm h hK ht hp hd hL hall hpre hpr hn1 hn2 hpe hle
    cases rest with
    | cons x rest => simp only [List.length_cons] at hm hle; omega
    | nil =>
      cases pd with
      | cons p pd => simp at hle
      | nil =>
        cases hp
        have h' : Sim c Z e st a w := h.widen (fun b hb => hb.1) (fun b hb => hb.1) rfl rfl rfl rfl
        refine ⟨?_, hN a w ⟨e, st, h', ht, hK⟩⟩
        cases hr : Region.ready .any ops listed with
        | nil => rfl
        | cons i is =>
          have hi : i ∈ Region.ready .any ops listed := by rw [hr]; simp
          obtain ⟨h1, o, ho, _⟩ := mem_ready.1 hi
          have hlt : i < ops.size := (Array.getElem?_eq_some_iff.1 ho).1
          exact absurd (by simpa using (hall i hlt).resolve_right (by simp)) ((hL.false_of hlt).1 h1)
  | succ m ihm =>
    intro rest pre pd l listed e st a w hm h hK ht hp hd hL hall hpre hpr hn1 hn2 hpe hle
    cases rest with
    | nil =>
      cases pd with
      | cons p pd => simp at hle
      | nil => exact ihm [] pre [] l listed e st a w (by simp) h hK ht hp hd hL hall hpre hpr hn1 hn2 hpe hle
    | cons x rest =>
      simp only [pickOps] at hp
      cases hox : ops.toList[x]? with
      | none => simp [hox] at hp
      | some o =>
        cases hpk : pickOps ops.toList rest with
        | none => simp [hox, hpk] at hp
        | some l' =>
          simp only [hox, hpk, Option.some.injEq] at hp
          subst hp
          have hx : ops[x]? = some o := by simpa using hox
          have hxlt : x < ops.size := (Array.getElem?_eq_some_iff.1 hx).1
          have hd0 := hd
          simp only [drawFrom, hox] at hd
          simp only [Bool.and_eq_true, Bool.not_eq_true'] at hd
          obtain ⟨⟨⟨⟨d1, d2⟩, d3⟩, d4⟩, d5⟩ := hd
          have hxpre : x ∉ pre := by rw [← nmem_iff, d2]; simp
          have hxrest : x ∉ rest := by rw [← nmem_iff, d3]; simp
          have hall' : ∀ i, i < ops.size → i ∈ x :: pre ∨ i ∈ rest := by
            intro i hi
            rcases hall i hi with h1 | h1
            · exact .inl (by simp [h1])
            · rcases List.mem_cons.1 h1 with h1 | h1
              · exact .inl (by simp [h1])
              · exact .inr h1
          have hpre' : ∀ i ∈ x :: pre, i < ops.size := by
            intro i hi
            rcases List.mem_cons.1 hi with rfl | hi
            · exact hxlt
            · exact hpre i hi
          have hKfull := hK
          simp only [opsK] at hK
          have hpal : ∀ p ∈ pd, ∃ q, ops[p.1]? = some q ∧ isAl q = true := fun p hp => by
            obtain ⟨q, _, _, _, _, _, h1, h2, _⟩ := (hpe p hp).row
            exact ⟨q, h1, h2⟩
          unfold stepK at hK
          obtain ⟨st', go, h', hK, hw⟩ := guard_ok h hK
          have hselo : ∀ cs b, o.op ≠ .select cs b := fun cs b => hsel x o cs b hx
          by_cases hxp : x ∈ pd.map (·.1)
          · -- it was made already: it is taken up
            obtain ⟨⟨x', b⟩, hpx, hxe⟩ := List.mem_map.1 hxp
            have hxe : x' = x := hxe
            subst hxe
            obtain ⟨o', t, I, d, arr, T, k1, k2, k3, k4, k5, k6, k7⟩ := (hpe _ hpx).row
            rw [hx] at k1; cases k1
            obtain ⟨_, _, _, _, hgn, hne⟩ := isAl_spec k2
            have hgo : go = true := by
              rw [← hw]; simp [Region.wanted, hgn]
            subst hgo
            have hrd : (isRd o && !mvAs c o) = false := by simp [isRd, k3]
            simp only [hrd, cond_false] at d4
            obtain ⟨pl, pr, rfl⟩ := List.append_of_mem hpx
            have hbn : b ∉ (pl ++ pr).map (·.2) := by
              have : ((pl ++ (x', b) :: pr).map (·.2)).Nodup := hn2
              simp only [List.map_append, List.map_cons, List.nodup_append, List.nodup_cons, List.mem_cons] at this
              simp only [List.map_append, List.mem_append, not_or]
              exact ⟨fun hm => this.2.2 b hm b (by simp) rfl, this.2.1.1⟩
            have hxn : x' ∉ (pl ++ pr).map (·.1) := by
              have : ((pl ++ (x', b) :: pr).map (·.1)).Nodup := hn1
              simp only [List.map_append, List.map_cons, List.nodup_append, List.nodup_cons, List.mem_cons] at this
              simp only [List.map_append, List.mem_append, not_or]
              exact ⟨fun hm => this.2.2 x' hm x' (by simp) rfl, this.2.1.1⟩
            have hsubp : ∀ p ∈ pl ++ pr, p ∈ pl ++ (x', b) :: pr := fun p hp => by
              simp only [List.mem_append, List.mem_cons] at hp ⊢
              rcases hp with hp | hp
              · exact .inl hp
              · exact .inr (.inr hp)
            have hsim : Sim c (Z.outs ((pl ++ pr).map (·.2))) e st' a w := by
              refine h'.widen (fun u hu => ⟨hu.1, fun hm => hu.2 ?_⟩) (fun u hu => ⟨hu.1, fun hm => hu.2 ?_⟩) rfl rfl rfl rfl <;>
              · obtain ⟨p, hp, rfl⟩ := List.mem_map.1 hm
                exact List.mem_map.2 ⟨p, hsubp p hp, rfl⟩
            have hbin : b ∈ (pl ++ (x', b) :: pr).map (·.2) := by simp
            have hnew : NewRep (Z.outs ((pl ++ pr).map (·.2))) e w st' (vOf b) (.box I.zero) := by
              refine ⟨b, by rw [bptr_p (k7 e).notMp]; rfl, ⟨⟨(hpe _ hpx).zone, hbn⟩, ⟨_, k6, rfl, k7 e⟩, (hpe _ hpx).free⟩, fun t' cs' ht' hbb => ?_, fun f o' ho' hbb => ?_⟩
              · have hs := h'.slot t'
                rw [ht'] at hs
                rcases hs.2.zone with ⟨_, u⟩ | u
                · exact u.2 (by rw [hbb]; exact hbin)
                · exact u.2 (by rw [hbb]; exact hbin)
              · obtain ⟨I', cells, g1, g2, g3, g4, g5⟩ := (h'.fam f o' ho').row
                rcases (g5 b hbb).1 with ⟨_, u⟩ | u
                · exact u.2 hbin
                · exact u.2 hbin
            simp only [cond_true, opK, k3, k4] at hK
            obtain ⟨e2, st2, j1, j2, j3⟩ := setDst_sim hsim hnew hK
            have hput : puts ops (pl ++ (x', b) :: pr) a = puts ops (pl ++ pr) (a.put o.dst (vOf b)) := by
              have hap : ∀ p ∈ pl ++ pr, ∀ dd, dstOf ops p.1 = some dd → o.dst ≠ some dd := by
                intro p hp dd hdd
                obtain ⟨q, hq, hal⟩ := hpal p (hsubp p hp)
                have hpr' : p.1 ∈ rest := by
                  rcases List.mem_cons.1 (hpr p (hsubp p hp)) with he | he
                  · exact absurd (List.mem_map.2 ⟨p, hp, he⟩) hxn
                  · exact he
                have := List.all_eq_true.1 d4 p.1 hpr'
                have hq' : ops.toList[p.1]? = some q := by simpa using hq
                simp only [hq', hal, cond_true, Bool.and_eq_true] at this
                exact (apart_al hq (.inl (apartL_ok this.1)) dd hdd).2
              exact puts_mid (by simp [dstOf, hx]) a pr pl hap
            rw [hput, ← j3]
            have hlen : (x' :: rest).length - (pl ++ (x', b) :: pr).length = rest.length - (pl ++ pr).length := by simp only [List.length_cons, List.length_append]; omega
            rw [hlen]
            refine ihm rest (x' :: pre) (pl ++ pr) l' listed e2 st2 _ w ?_ j1 j2 (by rw [j3]; exact ht) hpk d5 ?_ hall' hpre' ?_ ?_ ?_ ?_ ?_
            · simp only [List.length_cons, List.length_append] at hm ⊢; omega
            · refine hL.congr (fun i => ?_)
              simp only [List.map_append, List.map_cons, List.mem_append, List.mem_cons]
              constructor
              · rintro ((h1 | h1 | h1) | h1)
                · exact .inl (.inl h1)
                · exact .inr (.inl h1)
                · exact .inl (.inr h1)
                · exact .inr (.inr h1)
              · rintro ((h1 | h1) | h1 | h1)
                · exact .inl (.inl h1)
                · exact .inl (.inr (.inr h1))
                · exact .inl (.inr (.inl h1))
                · exact .inr h1
            · intro p hp
              rcases List.mem_cons.1 (hpr p (hsubp p hp)) with he | he
              · exact absurd (List.mem_map.2 ⟨p, hp, he⟩) hxn
              · exact he
            · have : ((pl ++ (x', b) :: pr).map (·.1)).Nodup := hn1
              refine List.Nodup.sublist ?_ this
              exact List.Sublist.map _ (List.Sublist.append_left (List.sublist_cons_self _ _) pl)
            · have : ((pl ++ (x', b) :: pr).map (·.2)).Nodup := hn2
              refine List.Nodup.sublist ?_ this
              exact List.Sublist.map _ (List.Sublist.append_left (List.sublist_cons_self _ _) pl)
            · intro p hp
              obtain ⟨q1, q2, q3⟩ := hpe p (hsubp p hp)
              exact ⟨q1, fun off => by rw [j3]; exact q2 off, q3⟩
            · simp only [List.length_cons, List.length_append] at hle ⊢; omega
          · have hpr' : ∀ p ∈ pd, p.1 ∈ rest := fun p hp => by
              rcases List.mem_cons.1 (hpr p hp) with he | he
              · exact absurd (List.mem_map.2 ⟨p, hp, he⟩) hxp
              · exact he
            have hlr : pd.length ≤ rest.length := by
              have h1 : (pd.map (·.1)).length ≤ rest.length := nodup_len hn1 (fun i hi => by obtain ⟨p, hp, rfl⟩ := List.mem_map.1 hi; exact hpr' p hp)
              simpa using h1
            have hfuel : (x :: rest).length - pd.length = (rest.length - pd.length) + 1 := by simp only [List.length_cons]; omega
            rw [hfuel]
            have hun : x ∉ pd.map (·.1) ++ pre := by simp only [List.mem_append, not_or]; exact ⟨hxp, hxpre⟩
            have hready : x ∈ Region.ready .any ops listed := by
              refine mem_ready.2 ⟨(hL.false_of hxlt).2 hun, o, hx, fun ed hed hb => ?_⟩
              have := List.all_eq_true.1 d1 ed (by simpa using hed)
              simp only [bindsB_eq, hb, Bool.not_true, Bool.false_or] at this
              have hm := (nmem_iff _ _).1 this
              exact (hL.done (hpre _ hm)).2 (by simp [hm])
            have next : ∀ (e' : Env) (st2 : St) (a' : Act) (w' : World), Sim c (Z.outs (pd.map (·.2))) e' st2 a' w' → Trans (Z.outs (pd.map (·.2))).In e.φ w e'.φ w' → opsK c ops.toList l' st2 K = some r → anyG P c ops N e.φ (rest.length - pd.length) (listed.setIfInBounds x true) (puts ops pd a') w' := by
              intro e' st2 a' w' h1 t1 hK1
              refine anyG_mono t1.ph _ _ _ _ ?_
              refine ihm rest (x :: pre) pd l' _ e' st2 a' w' ?_ h1 hK1 (ht.trans (t1.wide fun b hb => hb.1)) hpk d5 ((hL.set hxlt).congr fun i => ?_) hall' hpre' hpr' hn1 hn2 (fun p hp => (hpe p hp).later (List.mem_map.2 ⟨p, hp, rfl⟩) t1) hlr
              · simp only [List.length_cons] at hm; omega
              · simp only [List.mem_cons, List.mem_append]
                constructor
                · rintro (h1 | h1 | h1)
                  · exact .inr (.inl h1)
                  · exact .inl h1
                  · exact .inr (.inr h1)
                · rintro (h1 | h1 | h1)
                  · exact .inr (.inl h1)
                  · exact .inl h1
                  · exact .inr (.inr h1)
            cases hrd : isRd o && !mvAs c o with
            | true =>
              simp only [hrd, cond_true] at d4
              have hap : ∀ p ∈ pd, ∀ dd, dstOf ops p.1 = some dd → dd ∉ o.looksAt ops ∧ o.dst ≠ some dd := by
                intro p hp
                obtain ⟨q, hq, hal⟩ := hpal p hp
                exact apart_al hq (.inr (freeRest_al rest [x] d4 p.1 (hpr' p hp) q hq hal))
              obtain ⟨hex, hwn⟩ := execOp_puts hselo a pd (fun p hp d hd => (hap p hp d hd).1)
              obtain ⟨D, D1, D2, D3, D4⟩ := freeRest_spec rest [x] d4 (fun y hy hne => absurd (by simpa using hy) hne)
              have hfree : ∀ j oj, ops[j]? = some oj → j ∉ D → j ≠ x → listed.getD j true = false → o.apart ops oj = true ∧ (isLd o = true → still c o = false → growAt c o ops j = true) := by
                intro j oj hoj hjD hjx hjun
                have hjlt : j < ops.size := (Array.getElem?_eq_some_iff.1 hoj).1
                have hjr : j ∈ rest := by
                  rcases hall' j hjlt with h1 | h1
                  · rcases List.mem_cons.1 h1 with h1 | h1
                    · exact absurd h1 hjx
                    · exact absurd (by simp [h1]) ((hL.false_of hjlt).1 hjun)
                  · exact h1
                obtain ⟨p, hp1, hp2, hp3⟩ := D4 j hjr hjD
                rw [hoj] at hp1
                cases hp1
                exact ⟨hp2, fun hl hs => by simp [growAt, hoj, hp3 hl hs]⟩
              have hdis : ∀ d ∈ D, listed.getD d false = false := by
                -- what is behind x is not done: those that wait are behind nothing
                have hpdD : ∀ p ∈ pd, p.1 ∉ D := by
                  intro p hp hpD
                  obtain ⟨q, hq, hal⟩ := hpal p hp
                  obtain ⟨ed, hed, hb, _⟩ := D3 p.1 q hpD (fun he => hxp (List.mem_map.2 ⟨p, hp, he⟩)) hq
                  obtain ⟨_, _, _, _, _, hne⟩ := isAl_spec hal
                  rw [hne ed hed] at hb; cases hb
                intro d hd
                have hdn : d ∉ pd.map (·.1) ++ pre := by
                  simp only [List.mem_append, not_or]
                  constructor
                  · intro hm
                    obtain ⟨p, hp, rfl⟩ := List.mem_map.1 hm
                    exact hpdD p hp hd
                  · rcases D2 d hd with h1 | h1
                    · have h1 : d = x := by simpa using h1
                      rw [h1]; exact hxpre
                    · exact fun hp => drawFrom_fresh rest (x :: pre) d5 d h1 (by simp [hp])
                by_cases hdl : d < ops.size
                · cases hg : listed.getD d false with
                  | false => rfl
                  | true => exact absurd ((hL.done hdl).1 hg) hdn
                · have hl : ¬ d < listed.size := by rw [hL.size]; exact hdl
                  simp [hl]
              cases go with
              | true =>
                simp only [cond_true] at hK
                obtain ⟨v, hv, e2, st2, k1, k2, k3⟩ := (op_all (Q := Only N) hG h' hK).rdOf (by simp only [Bool.and_eq_true] at hrd; exact hrd.1) (by simp only [Bool.and_eq_true, Bool.not_eq_true'] at hrd; exact hrd.2)
                refine anyG_first D3 hx hsel (rest.length - pd.length) listed _ w hfree hdis hready (.inl ⟨by rw [hwn]; exact hw, fun w' hg => by rw [hex]; exact hv w' hg⟩) h.imm ?_
                rw [puts_put a o.dst v pd (fun p hp d hd => (hap p hp d hd).2)]
                exact next e2 st2 _ w k1 k2 k3
              | false =>
                simp only [cond_false] at hK
                obtain ⟨e2, st2, k1, k2, k3⟩ := setDst_sim (v := undef) (s := .skip) h' ⟨rfl, trivial⟩ hK
                refine anyG_first D3 hx hsel (rest.length - pd.length) listed _ w hfree hdis hready (.inr ⟨by rw [hwn]; exact hw, rfl⟩) h.imm ?_
                rw [puts_put a o.dst undef pd (fun p hp d hd => (hap p hp d hd).2)]
                exact next e2 st2 _ w k1 (by rw [k3]; exact .refl _ _ _) k2
            | false =>
              simp only [hrd, cond_false] at d4
              have hap : ∀ p ∈ pd, ∀ dd, dstOf ops p.1 = some dd → dd ∉ o.looksAt ops ∧ o.dst ≠ some dd := by
                intro p hp
                obtain ⟨q, hq, hal⟩ := hpal p hp
                have := List.all_eq_true.1 d4 p.1 (hpr' p hp)
                have hq' : ops.toList[p.1]? = some q := by simpa using hq
                simp only [hq', hal, cond_true, Bool.and_eq_true] at this
                exact apart_al hq (.inl (apartL_ok this.1))
              refine ⟨fun hr0 => (by rw [hr0] at hready; cases hready), fun i hi => ?_⟩
              obtain ⟨hun', oi, hoi, hedges⟩ := mem_ready.1 hi
              have hilt : i < ops.size := (Array.getElem?_eq_some_iff.1 hoi).1
              have hin := (hL.false_of hilt).1 hun'
              simp only [List.mem_append, not_or] at hin
              by_cases hix : i = x
              · subst hix
                rw [hx] at hoi; cases hoi
                have hsim : wpOp P ops (Only N) i (fun a' w' => (∀ oi, growAt c oi ops i = true → GrowFor c oi w w') ∧ ∃ e2 st2, Sim c (Z.outs (pd.map (·.2))) e2 st2 a' w' ∧ Trans (Z.outs (pd.map (·.2))).In e.φ w e2.φ w' ∧ opsK c ops.toList l' st2 K = some r) a w := by
                  unfold wpOp
                  simp only [hx]
                  rw [hw]
                  cases go with
                  | true =>
                    simp only [cond_true] at hK
                    simp only [if_true]
                    left
                    have hd := op_all (Q := Only N) hG h' hK
                    cases hgr : grAt c o with
                    | true =>
                      simp only [grAt, Bool.or_eq_true] at hgr
                      refine Oper.wp_mono ?_ (hd.grOf hgr)
                      rintro a' w' ⟨hg, e2, st2, k1, k2, k3⟩
                      exact ⟨fun _ _ => hg.for, e2, st2, k1, k2, k3⟩
                    | false =>
                      by_cases hme : ∃ oi, entOK oi o = true
                      · obtain ⟨oi0, hme⟩ := hme
                        refine Oper.wp_mono ?_ (op_me (Q := Only N) hG h' hK hme)
                        rintro a' w' ⟨hg, e2, st2, k1, k2, k3⟩
                        refine ⟨fun oi hh => ?_, e2, st2, k1, k2, k3⟩
                        have hoi : entOK oi o = true := by simpa [growAt, hx, hgr] using hh
                        exact entOK_same hme hoi hg
                      · refine Oper.wp_mono ?_ hd.wp
                        rintro a' w' ⟨e2, st2, k1, k2, k3⟩
                        exact ⟨fun oi hh => absurd ⟨oi, by simpa [growAt, hx, hgr] using hh⟩ hme, e2, st2, k1, k2, k3⟩
                  | false =>
                    simp only [cond_false] at hK
                    simp only [Bool.false_eq_true, if_false]
                    obtain ⟨e2, st2, k1, k2, k3⟩ := setDst_sim (v := undef) (s := .skip) h' ⟨rfl, trivial⟩ hK
                    exact ⟨fun _ _ => (Grow.refl w).for, e2, st2, k1, by rw [k3]; exact .refl _ _ _, k2⟩
                refine wpOp_mono ?_ (op_puts hx hselo hsim pd hap)
                rintro a' w' ⟨a2, rfl, hg, e2, st2, k1, k2, k3⟩
                exact ⟨⟨hg, fun b o v hv => k1.imm b o v (k2.ph b o v hv)⟩, next e2 st2 a2 w' k1 k2 k3⟩
              · have hir : i ∈ rest := by
                  rcases hall' i hilt with h1 | h1
                  · rcases List.mem_cons.1 h1 with h1 | h1
                    · exact absurd h1 hix
                    · exact absurd h1 hin.2
                  · exact h1
                have hchk := List.all_eq_true.1 d4 i hir
                have hoi' : ops.toList[i]? = some oi := by simpa using hoi
                simp only [hoi'] at hchk
                cases hal : isAl oi with
                | false =>
                  exfalso
                  simp only [hal, cond_false] at hchk
                  unfold edgeTo at hchk
                  obtain ⟨ed, hed, hb⟩ := List.any_eq_true.1 hchk
                  simp only [Bool.and_eq_true, bindsB_eq, Bool.or_eq_true, Bool.not_eq_true'] at hb
                  obtain ⟨hb1, hb2⟩ := hb
                  have hdone := hedges ed (by simpa using hed) hb1
                  have hnl : ed.on ∉ pd.map (·.1) ++ pre := by
                    rcases hb2 with hb2 | ⟨hb2, hb3⟩
                    · rw [Nat.eq_of_beq_eq_true hb2]; exact hun
                    · simp only [List.mem_append, not_or]
                      refine ⟨fun hm => ?_, fun hp => drawFrom_fresh rest (x :: pre) d5 _ ((nmem_iff _ _).1 hb2) (by simp [hp])⟩
                      obtain ⟨p, hp, he⟩ := List.mem_map.1 hm
                      obtain ⟨q, hq, hqa⟩ := hpal p hp
                      have hq' : ops.toList[ed.on]? = some q := by rw [← he]; simpa using hq
                      simp [alAt, hq', hqa] at hb3
                  by_cases hon : ed.on < ops.size
                  · exact hnl ((hL.done hon).1 hdone)
                  · have : listed.getD ed.on false = false := by
                      have hl : ¬ ed.on < listed.size := by rw [hL.size]; exact hon
                      simp [hl]
                    rw [this] at hdone; cases hdone
                | true =>
                  obtain ⟨t, d, q1, q2, q3, q4⟩ := isAl_spec hal
                  -- its row of types, out of the order's own later step
                  have hI : ∃ I, c.tv t = some I := by
                    simp only [hal, cond_true, Bool.and_eq_true, alTv, q1] at hchk
                    cases htv : c.tv t with
                    | none => rw [htv] at hchk; exact absurd hchk.2 (by simp)
                    | some I => exact ⟨I, rfl⟩
                  obtain ⟨I, hI⟩ := hI
                  obtain ⟨inf, z, hz1, hz2, hz3⟩ := alloc_zero hI hG.ti
                  have hg : Grow w (w.alloc (.cells z.cells t)) := .alloc w _ _
                  unfold wpOp
                  simp only [hoi]
                  have hwn : Region.wanted oi (yielded ops (puts ops pd a).tmps) = true := by simp [Region.wanted, q3]
                  simp only [hwn, if_true]
                  left
                  have hrun : (execOp (puts ops pd a).eval oi).run P w = .ok (.value (vOf w.heap.size)) (w.alloc (.cells z.cells t)) := by
                    simp [execOp, q1, Instr.alloc, zeroValue, typeInfo, hz1, hz2, newVar, newRow, newObj, Sem.run, vOf]
                  unfold Oper.wp
                  rw [hrun]
                  simp only [Oper.upon]
                  refine ⟨⟨fun _ _ => hg.for, (h.grow hg).imm⟩, ?_⟩
                  have hsz : w.heap.size < (w.alloc (.cells z.cells t)).heap.size := by simp
                  have hblt : ∀ p ∈ pd, p.2 < w.heap.size := fun p hp => by
                    obtain ⟨_, _, _, _, _, _, _, _, _, _, _, k6, _⟩ := (hpe p hp).row
                    exact lt_of_heap k6
                  have hput : (puts ops pd a).put oi.dst (vOf w.heap.size) = puts ops ((i, w.heap.size) :: pd) a := by simp [puts, dstOf, hoi]
                  rw [hput]
                  have hlt : pd.length < rest.length := by
                    have h1 : (i :: pd.map (·.1)).length ≤ rest.length := by
                      refine nodup_len (List.nodup_cons.2 ⟨hin.1, hn1⟩) ?_
                      intro j hj
                      rcases List.mem_cons.1 hj with rfl | hj
                      · exact hir
                      · obtain ⟨p, hp, rfl⟩ := List.mem_map.1 hj; exact hpr' p hp
                    simp only [List.length_cons, List.length_map] at h1; omega
                  have hf2 : rest.length - pd.length = (x :: rest).length - ((i, w.heap.size) :: pd).length := by simp only [List.length_cons]; omega
                  rw [hf2]
                  refine ihm (x :: rest) pre ((i, w.heap.size) :: pd) (o :: l') _ e st a _ ?_ (h.narrow hg hsz) ?_ (ht.trans (hg.trans (fun b hb => (h.zone b hb).1) _)) ?_ hd0 ?_ hall hpre ?_ ?_ ?_ ?_ ?_
                  · simp only [List.length_cons] at hm ⊢; omega
                  · exact hKfull
                  · simp [pickOps, hox, hpk]
                  · refine (hL.set hilt).congr (fun j => ?_)
                    simp
                  · intro p hp
                    rcases List.mem_cons.1 hp with rfl | hp
                    · exact List.mem_cons_of_mem _ hir
                    · exact hpr p hp
                  · exact List.nodup_cons.2 ⟨hin.1, hn1⟩
                  · refine List.nodup_cons.2 ⟨fun hm => ?_, hn2⟩
                    obtain ⟨p, hp, he⟩ := List.mem_map.1 hm
                    have := hblt p hp
                    have he : p.2 = w.heap.size := he
                    omega
                  · intro p hp
                    rcases List.mem_cons.1 hp with rfl | hp
                    · refine ⟨⟨oi, t, I, d, z.cells, t, hoi, hal, q1, hI, q2, heap_alloc_new w _, hz3⟩, fun off => ?_, (h.zone _ (Nat.le_refl _)).1⟩
                      cases hp : e.φ w.heap.size off with
                      | none => rfl
                      | some v =>
                        have := World.block_lt_of_cell? w _ (h.imm _ _ _ hp)
                        simp at this
                    · obtain ⟨⟨o1, t1, I1, d1, arr1, T1, k1, k2, k3, k4, k5, k6, k7⟩, q5, q6⟩ := hpe p hp
                      exact ⟨⟨o1, t1, I1, d1, arr1, T1, k1, k2, k3, k4, k5, by rw [hg.old _ (lt_of_heap k6)]; exact k6, k7⟩, q5, q6⟩
                  · simp only [List.length_cons]; omega

theorem draw_any (hG : Good P c) {ops : Array Oper} {l : List Oper} {ord : List Nat} (hd : drawOK c ops ord = true) (hp : pickOps ops.toList ord = some l) {Z : Zone} {e : Env} {st : St} {a : Act} {w : World} {R : Type} {K : St → Option R} {r : R} (h : Sim c Z e st a w) (hK : opsK c ops.toList l st K = some r) :
    wpAny P .any ops (Only fun a' w' => Out c Z K r e.φ w a' w') ops.size (Array.replicate ops.size false) a { w with drawn := w.drawn + 1 } := by
  simp only [drawOK, Bool.and_eq_true] at hd
  obtain ⟨⟨⟨hns, hl0⟩, hall⟩, hd⟩ := hd
  have hsel : ∀ (j : Nat) (o : Oper) cs b, ops[j]? = some o → o.op ≠ .select cs b := by
    intro j o cs b ho he
    have := List.all_eq_true.1 hns o (List.mem_of_getElem? (by simpa using ho : ops.toList[j]? = some o))
    simp [he] at this
  have hgrow : Grow w { w with drawn := w.drawn + 1 } := ⟨Nat.le_refl _, fun _ _ => rfl, rfl, rfl, rfl, fun _ => rfl⟩
  · refine anyG_any (c := c) (φ := e.φ) _ _ _ _ ?_
    have hlen : ord.length = ops.size := by have := Nat.eq_of_beq_eq_true hl0; simpa using this
    rw [← hlen]
    have h0 : Sim c (Z.outs []) e st a { w with drawn := w.drawn + 1 } := (h.grow hgrow).widen (fun b hb => ⟨hb, by simp⟩) (fun b hb => ⟨hb, by simp⟩) rfl rfl rfl rfl
    refine draw_ok hG hsel (fun a' w' h => h) (2 * ord.length) ord [] [] l _ e st a _ (by simp) h0 hK (hgrow.trans h.zone e.φ) hp hd ⟨by simp [hlen], fun i hi => ?_⟩ (fun i hi => .inr ((nmem_iff _ _).1 (List.all_eq_true.1 hall i (by simpa using hi)))) (by simp) (by simp) (by simp) (by simp) (by simp) (by simp)
    simp [hlen, hi]
end

end Dn
/-
  Open order with two operations that may be done either way round. Conditions: none.
-/
set_option linter.unusedSimpArgs false
set_option linter.unusedVariables false
namespace Dn
open Go

section
variable {P : Program} {ops : Array Oper} {Q : Exit → Act → World → Prop}

theorem addE_size (A B : Nat) : (addE ops A B).size = ops.size := by simp [addE]
theorem addE_get (A B i : Nat) : (addE ops A B)[i]? = (ops[i]?).map fun o => if B = i then { o with after := o.after.push ⟨A, .data⟩ } else o := by
  unfold addE
  rw [Array.getElem?_modify]
  by_cases h : B = i
  · simp [h]
  · cases ops[i]? <;> simp [h]
theorem addE_yielded (A B : Nat) (tmps : Array Value) : yielded (addE ops A B) tmps = yielded ops tmps := by
  funext j
  unfold yielded
  rw [addE_get]
  cases ops[j]? with
  | none => rfl
  | some o =>
    have e : (if B = j then { o with after := o.after.push ⟨A, .data⟩ } else o).dst = o.dst := by split <;> rfl
    simp only [Option.map_some, Option.bind_some, e]
theorem addE_wpOp {A B i : Nat} {K : Act → World → Prop} {a : Act} {w : World} (h : wpOp P (addE ops A B) Q i K a w) : wpOp P ops Q i K a w := by
  unfold wpOp at h ⊢
  rw [addE_get, addE_yielded] at h
  cases hi : ops[i]? with
  | none => rw [hi] at h; exact h
  | some o =>
    rw [hi] at h
    simp only [Option.map_some] at h
    by_cases hb : B = i
    · rw [if_pos hb] at h; exact h
    · rw [if_neg hb] at h; exact h
theorem addE_ready {A B i : Nat} {listed : Array Bool} : i ∈ Region.ready .any (addE ops A B) listed ↔ i ∈ Region.ready .any ops listed ∧ (i = B → listed.getD A false = true) := by
  unfold Region.ready
  rw [addE_size]
  simp only [List.mem_filter, List.mem_range, addE_get]
  cases hi : ops[i]? with
  | none => simp
  | some o =>
    by_cases hb : B = i
    · subst hb
      simp [Array.all_push, Region.binds]
      constructor
      · rintro ⟨h1, h2, h3, h4⟩; exact ⟨⟨h1, h2, h3⟩, h4⟩
      · rintro ⟨⟨h1, h2, h3⟩, h4⟩; exact ⟨h1, h2, h3, h4⟩
    · have hb' : ¬ i = B := fun e => hb e.symm
      simp [hb, hb']
/-- is A ahead of B -/
def Ahd (A B : Nat) : Bool → List Nat → Prop
  | _, [] => True
  | la, i :: r => (i = B → la = true) ∧ Ahd A B (la || decide (i = A)) r
theorem ahd_true (A B : Nat) : ∀ L, Ahd A B true L
  | [] => trivial
  | i :: r => ⟨fun _ => rfl, by simpa using ahd_true A B r⟩
theorem ahd_or {A B : Nat} (h : A ≠ B) : ∀ L, Ahd A B false L ∨ Ahd B A false L
  | [] => .inl trivial
  | i :: r => by
    by_cases ha : i = A
    · subst ha
      exact .inl ⟨fun e => absurd e h, by simpa using ahd_true i B r⟩
    · by_cases hb : i = B
      · subst hb
        exact .inr ⟨fun e => absurd e ha, by simpa using ahd_true i A r⟩
      · rcases ahd_or h r with h1 | h1
        · exact .inl ⟨fun e => absurd e hb, by simpa [ha] using h1⟩
        · exact .inr ⟨fun e => absurd e ha, by simpa [hb] using h1⟩
theorem two_sound {A B : Nat} : ∀ (fuel t : Nat) (listed : Array Bool) (a : Act) (w : World), A < listed.size → wpAny P .any (addE ops A B) Q fuel listed a w →
    Ahd A B (listed.getD A false) (Region.linearise.go .any ops fuel t listed []) → wpOps P ops Q (Region.linearise.go .any ops fuel t listed []) a w := by
  intro fuel
  induction fuel with
  | zero => intro t listed a w _ h _; simpa [Region.linearise.go, wpOps] using h.2
  | succ fuel ih =>
    intro t listed a w hs h hA
    obtain ⟨h₀, h₁⟩ := h
    simp only [Region.linearise.go] at hA ⊢
    change wpOps P ops Q (match (Region.ready .any ops listed)[t % (Region.ready .any ops listed).length]? with
      | some i => Region.linearise.go .any ops fuel (t / (Region.ready .any ops listed).length) (listed.setIfInBounds i true) [i]
      | none => [].reverse) a w
    change Ahd A B (listed.getD A false) (match (Region.ready .any ops listed)[t % (Region.ready .any ops listed).length]? with
      | some i => Region.linearise.go .any ops fuel (t / (Region.ready .any ops listed).length) (listed.setIfInBounds i true) [i]
      | none => [].reverse) at hA
    cases hi : (Region.ready .any ops listed)[t % (Region.ready .any ops listed).length]? with
    | none =>
      have hnil : Region.ready .any ops listed = [] := by
        cases hr : Region.ready .any ops listed with
        | nil => rfl
        | cons x xs =>
          rw [hr] at hi
          have hlt : t % (x :: xs).length < (x :: xs).length := Nat.mod_lt _ (by simp)
          simp at hi
          simp at hlt
          omega
      have hnil2 : Region.ready .any (addE ops A B) listed = [] := by
        cases hr : Region.ready .any (addE ops A B) listed with
        | nil => rfl
        | cons x xs =>
          have : x ∈ Region.ready .any (addE ops A B) listed := by rw [hr]; simp
          have := (addE_ready.1 this).1
          rw [hnil] at this; cases this
      simpa [wpOps] using h₀ hnil2
    | some i =>
      rw [hi] at hA
      simp only [] at hA ⊢
      rw [linearise_go_acc, List.reverse_singleton, List.singleton_append] at hA ⊢
      obtain ⟨hA1, hA2⟩ := hA
      rw [wpOps_cons]
      have hmem := addE_ready.2 ⟨List.mem_of_getElem? hi, hA1⟩
      refine wpOp_mono (fun a w hw => ih _ _ a w (by simpa using hs) hw ?_) (addE_wpOp (h₁ i hmem))
      have hg : (listed.setIfInBounds i true).getD A false = (listed.getD A false || decide (i = A)) := by
        rw [Array.getD_eq_getD_getElem?, Array.getD_eq_getD_getElem?, Array.getElem?_setIfInBounds]
        by_cases hia : i = A
        · subst hia; simp [hs]
        · simp [hia]
      rw [hg]; exact hA2
theorem wp_region_two {id A B : Nat} {a : Act} {w : World} (hm : P.follows .mixedOrders = true) (hne : A ≠ B) (hA : A < ops.size) (hB : B < ops.size)
    (h1 : wpAny P .any (addE ops A B) Q ops.size (Array.replicate ops.size false) a { w with drawn := w.drawn + 1 })
    (h2 : wpAny P .any (addE ops B A) Q ops.size (Array.replicate ops.size false) a { w with drawn := w.drawn + 1 }) : (Code.region id ops true).wp P Q a w :=
  wp_region_draw fun t => by
    simp only [Region.schedule, hm, Bool.true_or, if_true]
    show wpOps P ops Q (Region.linearise.go .any ops ops.size t (Array.replicate ops.size false) []) a _
    rcases ahd_or hne (Region.linearise.go .any ops ops.size t (Array.replicate ops.size false) []) with h | h
    · exact two_sound ops.size t _ a _ (by simpa using hA) h1 (by simpa [hA] using h)
    · exact two_sound ops.size t _ a _ (by simpa using hB) h2 (by simpa [hB] using h)
theorem draws_ok {c : Ctx} (hG : Good P c) (hmix : P.follows .mixedOrders = true) : Draws P c := by
  constructor
  · intro id ops l hd hp Z e st a w R K r Q h hK hQ
    refine Code.wp_mono ?_ (wp_region_any hmix (draw_any hG hd hp h hK))
    intro x a' w' hx
    cases x <;> first | exact hQ a' w' hx | exact hx.elim
  · intro id ops A B o1 o2 l1 l2 hne hA hB hd1 hd2 hp1 hp2 Z e st a w R K r Q h hK1 hK2 hQ
    have w1 := draw_any hG hd1 hp1 h hK1
    have w2 := draw_any hG hd2 hp2 h hK2
    rw [addE_size] at w1 w2
    refine Code.wp_mono ?_ (wp_region_two hmix hne hA hB w1 w2)
    intro x a' w' hx
    cases x <;> first | exact hQ a' w' hx | exact hx.elim
end
end Dn
/-
  Functions of the library, by hand: copies of slices. Conditions: none.
-/
set_option linter.unusedSimpArgs false
set_option linter.unusedVariables false
namespace Dn
open Go

section
variable {P : Program} {c : Ctx} {Q : Exit → Act → World → Prop} {ops : Array Oper} {o : Oper} {a : Act} {w w' : World}

/-- one operation, of which it is known what it yields -/
theorem wp_val {i : Nat} {rest : List Nat} {v : Value} (hi : ops[i]? = some o) (hg : o.guard = none) (hrun : (execOp a.eval o).run P w = .ok (.value v) w')
    (h : wpOps P ops Q rest (a.put o.dst v) w') : wpOps P ops Q (i :: rest) a w := by
  rw [wpOps_cons]
  unfold wpOp
  simp only [hi, Region.wanted, hg, if_true]
  left
  unfold Oper.wp
  rw [hrun, Oper.upon_value]; exact h

/-- what an operation is, but for its place in the text -/
structure IsOp (o : Oper) (d : Nat) (op : Op) : Prop where
  dst : o.dst = some d
  op : o.op = op
  guard : o.guard = none

theorem src_of {key : Nat → Nat} {φ : Ph} {size : Nat} {v : Value} {xs : List MV} (himm : Imm φ w) (hpos : 0 < size) (hx : Rep key φ [v] (.list xs)) (hw : wids size xs = true) : ∃ news, Src (env0 key φ) w size v xs news := by
  generalize hv : [v] = vs at hx
  cases hx with
  | list ad cap _ blk off esz f g1 g2 g3 g4 g5 =>
  simp at hv
  have hes : ∀ i, i < xs.length → (f i).length = size := by
    intro i hi
    rw [(g5 i hi).width]
    exact wids_mem hw _ (List.getElem_mem hi)
  obtain ⟨cs, h1, h2⟩ := elems_flat hes g5
  refine ⟨cs, h1, ad, cap, hv, ?_, ?_⟩
  · intro hn
    cases xs with
    | nil => rfl
    | cons y ys => have := g2 (by simp); rw [hn] at this; cases this
  · intro x hx j u hj
    have hjl : j < cs.length := (List.getElem?_eq_some_iff.1 hj).1
    rw [h1.length] at hjl
    have hpos2 : 0 < xs.length := by
      cases xs with
      | nil => simp at hjl
      | cons y ys => simp
    have had := g2 hpos2
    rw [hx] at had
    cases had
    have hq : j / size < xs.length := (Nat.div_lt_iff_lt_mul hpos).2 hjl
    have hm := Nat.mod_lt j hpos
    have hj2 : j = j / size * size + j % size := by rw [Nat.mul_comm]; exact (Nat.div_add_mod j size).symm
    have e1 := h2 (j / size) (j % size) hq hm
    rw [← hj2, hj] at e1
    have hes2 : esz = size := by rw [← g3 0 hpos2, hes 0 hpos2]
    have e2 := g4 (j / size) (j % size) hq (by rw [hes2]; exact hm)
    rw [← e1, hes2, Nat.add_assoc, ← hj2] at e2
    have := himm _ _ _ e2
    rw [Addr.add_mid]; exact this

/-- a slice is nil, or not -/
theorem run_isnil {t t' : TypeId} {el : TypeId} {x : Operand} {ad : Option Addr} {n cap : Nat} (hu : P.underlying t = some (.slice el)) (ho : o.op = .binOp .eql t x (.const (.slice none 0 0)) t') (hx : a.eval x = .slice ad n cap) :
    (execOp a.eval o).run P w = .ok (.value (.bool ad.isNone)) w := by
  have he : a.eval (.const (.slice none 0 0)) = .slice none 0 0 := rfl
  have heq : ∀ d : Nat, (Op.equalIn (d + 1) t (.slice ad n cap) (.slice none 0 0)).run P w = .ok ad.isNone w := by
    intro d
    cases ad <;> simp [Op.equalIn, run_underlying hu]
  have hb : Go.binOp .eql t (.slice ad n cap) (.slice none 0 0) = (do pure (.bool (← Op.equal t (.slice ad n cap) (.slice none 0 0)))) := rfl
  have hg : ∀ (x y : Operand), (eqGuard .eql t x y (.slice ad n cap) (.slice none 0 0)).run P w = .ok () w := fun _ _ => rfl
  have h2 : (Op.equal t (.slice ad n cap) (.slice none 0 0)).run P w = .ok ad.isNone w := heq 9999
  unfold execOp
  simp only [ho]
  rw [hx, he]
  simp [hg, hb, h2]

theorem clone_ok {f : FuncId} {fn : Func} {t : TypeId} {I E : TI} {i0 i1 i2 i3 : Nat} {oA oB oC oD oE oF oG oH : Oper} {xs : List MV} (hT : TIok P c.ti) (hI : c.tv t = some I) (hL : I.isL = true) (hE : c.tv I.elem = some E) (hb1 : 1 ≤ E.bytes)
    (hfty : c.fty (c.key f) = I.elem) (hg : c.gives (c.key f) = false)
    (hf : P.funcs[f]? = some fn) (hname : (fn.name == "runtime.NumGoroutine") = false) (hn : fn.ntmps = 8) (hr : fn.results = #[.tmp 2])
    (hbody : fn.body = some (.seq (.region i0 #[oA] false) (.seq (.seq (.region i1 #[oB, oC] false) (.cond (.tmp 4) (.seq (.region i2 #[oD] false) .ret) .skip)) (.seq (.region i3 #[oE, oF, oG, oH] false) .ret))))
    (hA : IsOp oA 2 (.assign (.const (.slice none 0 0)))) (hB : IsOp oB 3 (.move (.tmp 0))) (hC : IsOp oC 4 (.binOp .eql t (.tmp 3) (.const (.slice none 0 0)) t)) (hD : IsOp oD 2 (.assign (.const (.slice none 0 0))))
    (hEo : IsOp oE 5 (.buildSlice t 0 #[])) (hF : IsOp oF 6 (.move (.tmp 0))) (hG : IsOp oG 7 (.call { callee := .builtin .append, args := #[.tmp 5, .tmp 6], argTypes := #[t, t] })) (hH : IsOp oH 2 (.assign (.tmp 7)))
    (hw : wids E.size xs = true) (hlim : xs.length * E.bytes ≤ 2 ^ 46) : Sound1 P c f [.list xs] (.fresh xs) := by
  obtain ⟨hIt, hIc⟩ := tv_some hI
  obtain ⟨hEi, hEc⟩ := tv_some hE
  obtain ⟨hu, E2, hE2, _, hpos⟩ := TI.isL_of (hT t I hIt) hL
  rw [hEi] at hE2
  cases hE2
  intro φ W Z vs hz hargs himm
  simp only [ArgsIn, hg, Bool.false_eq_true, if_false] at hargs
  obtain ⟨v, u, rfl, ⟨_, hx⟩, hu0⟩ := hargs
  have hu0 : u = [] := hu0
  subst hu0
  obtain ⟨ad, cap, hv, hcap, hnn⟩ : ∃ ad cap, v = .slice ad xs.length cap ∧ xs.length ≤ cap ∧ (0 < xs.length → ad ≠ none) := by
    have hx2 := hx
    generalize hvs : [v] = vs at hx2
    cases hx2 with
    | list ad cap _ blk off esz f g1 g2 g3 g4 g5 => exact ⟨ad, cap, by simpa using hvs, g1, fun h0 hn => by rw [g2 h0] at hn; cases hn⟩
  have hrun : (callFunc f [v].toArray).run P W = .ok (.enter f #[v]) W := by
    have hn2 : ¬ fn.name = "runtime.NumGoroutine" := by simpa using hname
    simp [callFunc, hf, hn2, hbody]
  unfold CallOK
  rw [hrun]
  refine calls_of_wp hf hbody ?_
  rw [hn]
  have ha0 : ({ tmps := #[v] ++ Array.replicate (8 - (#[v] : Array Value).size) undef, defers := [] } : Act) = { tmps := #[v, undef, undef, undef, undef, undef, undef, undef], defers := [] } := rfl
  rw [ha0]
  have hlr1 : List.range (#[oA] : Array Oper).size = [0] := rfl
  have hlr2 : List.range (#[oB, oC] : Array Oper).size = [0, 1] := rfl
  have hlr4 : List.range (#[oE, oF, oG, oH] : Array Oper).size = [0, 1, 2, 3] := rfl
  have hlrD : List.range (#[oD] : Array Oper).size = [0] := rfl
  -- what it ends with
  have fin : ∀ (a : Act) (W' : World) (v' : Value) (cells : List Value), a.defers = [] → a.tmps.getD 2 undef = v' → (∃ φ', Trans Z φ W φ' W' ∧ Imm φ' W' ∧ ResRep c Z φ' W' (c.key f) v' (.fresh xs)) →
      bodyPost P fn (fun x w'' => ∃ v, x = .returned v ∧ ∃ φ', Trans Z φ W φ' w'' ∧ Imm φ' w'' ∧ ResRep c Z φ' w'' (c.key f) v (.fresh xs)) .ret a W' := by
    intro a W' v' cells hd h2 h3
    refine ⟨hd, v', ?_, v', rfl, h3⟩
    have h2' : a.tmps[2]?.getD undef = v' := by simpa using h2
    simp [results, hr, h2']
  refine wp_seq (wp_region ?_)
  rw [hlr1]
  refine wp_val (o := oA) rfl hA.guard (v := .slice none 0 0) (w' := W) (by simp [execOp, hA.op]; rfl) ?_
  rw [hA.dst]
  refine wp_seq (wp_seq (wp_region ?_))
  rw [hlr2]
  refine wp_val (o := oB) rfl hB.guard (v := v) (w' := W) (by simp [execOp, hB.op]; rfl) ?_
  rw [hB.dst]
  refine wp_val (o := oC) rfl hC.guard (v := .bool ad.isNone) (w' := W) (run_isnil hu hC.op (by rw [← hv]; rfl)) ?_
  rw [hC.dst]
  refine wp_cond (t := ad.isNone) rfl ?_
  cases had : ad.isNone with
  | true =>
    have had : ad = none := by simpa using had
    have hxs : xs = [] := by
      cases xs with
      | nil => rfl
      | cons y ys => exact absurd had (hnn (by simp))
    simp only [if_true]
    refine wp_seq (wp_region ?_)
    rw [hlrD]
    refine wp_val (o := oD) rfl hD.guard (v := .slice none 0 0) (w' := W) (by simp [execOp, hD.op]; rfl) ?_
    rw [hD.dst]
    refine wp_ret ?_
    refine fin _ W (.slice none 0 0) [] rfl rfl ⟨φ, .refl _ _ _, himm, ?_⟩
    show FamOK c (Zone.plain Z) (env0 c.key φ) W _ ⟨c.fty (c.key f), false, xs⟩
    rw [hfty, hxs]
    exact ⟨E, [], hEi, hEc, ⟨by simp, .inl ⟨rfl, rfl⟩⟩, rfl, fun blk hb => by simp [Value.ownBlock] at hb⟩
  | false =>
    simp only [Bool.false_eq_true, if_false]
    refine wp_skip ?_
    refine wp_seq (wp_region ?_)
    rw [hlr4]
    have hlit := lit_run (P := P) (c := c) (w := W) (t := t) (I := I) (vs := []) (parts := #[]) hu hEi hEc hpos hT (by simp) (by simp) rfl
    simp only [List.length_nil, List.flatMap_nil] at hlit
    refine wp_val (o := oE) rfl hEo.guard (v := .slice (some ⟨W.heap.size, 0, none⟩) 0 0) (w' := W.alloc (.cells #[] I.elem)) (by simp [execOp, hEo.op, hlit]) ?_
    rw [hEo.dst]
    refine wp_val (o := oF) rfl hF.guard (v := v) (w' := W.alloc (.cells #[] I.elem)) (by simp [execOp, hF.op]; rfl) ?_
    rw [hF.dst]
    obtain ⟨news, hsrc⟩ := src_of himm hpos hx hw
    have hg1 : Grow W (W.alloc (.cells #[] I.elem)) := .alloc W _ _
    have hsrc1 : Src (env0 c.key φ) (W.alloc (.cells #[] I.elem)) E.size v xs news := by
      obtain ⟨ad', cap', q1, q2, q3⟩ := hsrc.val
      exact ⟨hsrc.els, ad', cap', q1, q2, fun x hx j u hj => hg1.cell (q3 x hx j u hj)⟩
    have hown : (W.alloc (.cells #[] I.elem)).ownsRow 0 I.elem E.size (.slice (some ⟨W.heap.size, 0, none⟩) 0 0) 0 [] :=
      ⟨by simp, .inr ⟨W.heap.size, 0, #[], rfl, Nat.zero_le _, heap_alloc_new W _, Nat.le_refl _, Nat.zero_le _, by simp, by simp⟩⟩
    obtain ⟨v', W', hrun2, hap⟩ := append_run (P := P) (c := c) (ty := oG.type) (e := env0 c.key φ) hu hEi hEc hpos hT hb1 hown hsrc1 (by simpa using hlim)
    refine wp_val (o := oG) rfl hG.guard (v := v') (w' := W') (by
      have e1 : ∀ (a : Act), a.eval (.tmp 5) = .slice (some ⟨W.heap.size, 0, none⟩) 0 0 → a.eval (.tmp 6) = v → (execOp a.eval oG).run P (W.alloc (.cells #[] I.elem)) = .ok (.value v') W' := by
        intro a h5 h6
        simp [execOp, hG.op, resolve, invoke, builtin, h5, h6, hrun2]
      exact e1 _ rfl rfl) ?_
    rw [hG.dst]
    refine wp_val (o := oH) rfl hH.guard (v := v') (w' := W') (by simp [execOp, hH.op]; rfl) ?_
    rw [hH.dst]
    refine wp_ret ?_
    refine fin _ W' v' [] rfl rfl ?_
    have hsz : W.heap.size ≤ W'.heap.size := Nat.le_trans hg1.size hap.size
    have hold : ∀ b, b < W.heap.size → W'.heap[b]? = W.heap[b]? := by
      intro b hb
      rw [hap.old b (Nat.lt_of_lt_of_le hb hg1.size) (by simp [Value.ownBlock]; omega)]
      exact hg1.old b hb
    refine ⟨φ, ⟨.refl _, fun b _ hb => hold b hb, fun _ _ _ => rfl, hsz, hg1.rest.trans hap.rest⟩, ?_, ?_⟩
    · intro b o u hbo
      have h1 := himm b o u hbo
      rw [World.cell?_of_block (hold b (World.block_lt_of_cell? W _ h1))]; exact h1
    · show FamOK c (Zone.plain Z) (env0 c.key φ) W' v' ⟨c.fty (c.key f), false, xs⟩
      rw [hfty]
      refine ⟨E, news, hEi, hEc, by simpa using hap.own, hsrc.els, fun blk hb => ?_⟩
      have hblk : W.heap.size ≤ blk := by
        rcases hap.place with h1 | h1
        · rw [h1] at hb; simp [Value.ownBlock] at hb; omega
        · rw [h1] at hb
          cases hb
          exact hg1.size
      refine ⟨hz blk hblk, fun off u hu => ?_, fun hc => hc.elim⟩
      have := World.block_lt_of_cell? W _ (himm _ _ _ hu)
      have : blk < W.heap.size := this
      omega
end

end Dn
/-
  Tables of functions. Conditions: none.
-/
namespace Dn
open Go
/-- a table of functions does what it says -/
structure SoundG (P : Program) (c : Ctx) (g : Nat → List MV → Option MV) : Prop where
  all : ∀ f ms r, g (c.key f) ms = some r → Sound1 P c f ms r
/-- one function more -/
abbrev addG (n : Nat) (F : List MV → Option MV) (g : Nat → List MV → Option MV) : Nat → List MV → Option MV := fun k ms => match Nat.beq k n with | true => F ms | false => g k ms
theorem SoundG.add {P : Program} {c : Ctx} {g : Nat → List MV → Option MV} {n : Nat} {F : List MV → Option MV} (h : SoundG P c g) (hF : ∀ f ms r, c.key f = n → F ms = some r → Sound1 P c f ms r) : SoundG P c (addG n F g) := by
  refine ⟨fun f ms r hr => ?_⟩
  unfold addG at hr
  cases hk : Nat.beq (c.key f) n with
  | true => simp only [hk] at hr; exact hF f ms r (Nat.eq_of_beq_eq_true hk) hr
  | false => simp only [hk] at hr; exact h.all f ms r hr
/-- contexts that differ only in what one function's run looks at -/
structure Like (c c' : Ctx) : Prop where
  ti : c'.ti = c.ti
  key : c'.key = c.key
  gives : c'.gives = c.gives
  fresh : c'.fresh = c.fresh
  fty : c'.fty = c.fty
  fk : c'.fk = c.fk
  mt : c'.mt = c.mt
theorem FamOK.like {c c' : Ctx} (h : c'.ti = c.ti) {Z : Zone} {e : Env} {w : World} {v : Value} {o : Own} (hs : FamOK c Z e w v o) : FamOK c' Z e w v o := by
  obtain ⟨I, cells, h1, h2⟩ := hs.row
  exact ⟨I, cells, by rw [h]; exact h1, h2⟩
theorem ResRep.like {c c' : Ctx} (h : Like c c') {Z : Nat → Prop} {φ : Ph} {w : World} {k : Nat} {v : Value} {r : MV} (hs : ResRep c Z φ w k v r) : ResRep c' Z φ w k v r := by
  cases r <;> simp only [ResRep, h.key, h.fty] at hs ⊢ <;> first | exact hs | exact hs.like h.ti
theorem ArgsIn.like {c c' : Ctx} (h : Like c c') {Z : Nat → Prop} {φ : Ph} {w : World} {k : Nat} {vs : List Value} {ms : List MV} (hs : ArgsIn c' Z φ w k vs ms) : ArgsIn c Z φ w k vs ms := by
  unfold ArgsIn at hs ⊢
  rw [h.gives] at hs
  split
  · rename_i hg
    rw [if_pos hg] at hs
    rcases hs with ⟨v0, v1, v2, xs, m1, ys, h1, h2, h3, h4, h5, h6⟩ | ⟨v0, v1, v2, xs, m1, m2, h1, h2, h3, h4, h5, h6⟩
    · rw [h.key, h.fty] at h3 h5
      rw [h.key] at h4
      exact .inl ⟨v0, v1, v2, xs, m1, ys, h1, h2, h3.like h.ti.symm, h4, h5.like h.ti.symm, h6⟩
    · rw [h.key, h.fty] at h4
      rw [h.key] at h5 h6
      exact .inr ⟨v0, v1, v2, xs, m1, m2, h1, h2, h3, h4.like h.ti.symm, h5, h6⟩
  · rename_i hg
    rw [if_neg hg, h.key] at hs
    exact hs
theorem CallOK.mono {P : Program} {f : FuncId} {args : Array Value} {w : World} {R R' : Value → World → Prop} (hc : CallOK P f args w R) (h : ∀ v w', R v w' → R' v w') : CallOK P f args w R' := by
  unfold CallOK at hc ⊢
  split
  · rename_i heq
    rw [heq] at hc
    exact Calls.mono hc (fun x w'' ⟨v, e, hr⟩ => ⟨v, e, h v w'' hr⟩)
  · rename_i heq
    rw [heq] at hc
    exact h _ _ hc
  · rename_i h1 h2
    split at hc
    · rename_i heq; exact absurd heq (h1 _ _ _)
    · rename_i heq; exact absurd heq (h2 _ _)
    · exact hc
theorem Sound1.like {P : Program} {c c' : Ctx} {f : Nat} {ms : List MV} {r : MV} (h : Like c c') (hs : Sound1 P c f ms r) : Sound1 P c' f ms r := by
  intro φ w Z vs hz ha hi
  rw [h.key] at ha
  refine (hs φ w Z vs hz (ha.like h) hi).mono ?_
  rintro v w' ⟨φ', h1, h2, h3⟩
  rw [h.key]
  exact ⟨φ', h1, h2, h3.like h⟩
theorem Like.symm {c c' : Ctx} (h : Like c c') : Like c' c := ⟨h.ti.symm, h.key.symm, h.gives.symm, h.fresh.symm, h.fty.symm, h.fk.symm, h.mt.symm⟩
/-- what is asked of a function's head -/
def headB (c : Ctx) (n : Nat) (fn : Func) (caps : List (List Kd)) : Bool :=
  !(fn.name == "runtime.NumGoroutine") && Nat.beq c.n fn.ntmps && Nat.ble (fn.params.size + caps.length) fn.ntmps && !c.gives n
/-- a function of the program's, out of its abstract run -/
theorem SoundG.body {P : Program} {c c' : Ctx} {g : Nat → List MV → Option MV} {n : Nat} {fn : Func} {caps : List (List Kd)} (h : SoundG P c g) (hl : Like c c') (hgg : c'.g = g) (hti : TIok P c.ti) (heq : EqOK P c.ti) (hfk : ∀ t k, c.fk t = some k → P.underlying t = some (.float k)) (hmt : MapTys P c) (hmix : P.follows .mixedOrders = true)
    (hf : P.funcs[n]? = some fn) (hh : headB c' n fn caps = true) (hkey : ∀ f, c.key f = f) : SoundG P c (addG n (bodyK c' caps none fn) g) := by
  have hG : Good P c' := by
    refine ⟨by rw [hl.ti]; exact hti, by rw [hl.ti]; exact heq, fun f ms r hr => ?_, by rw [hl.fk]; exact hfk, fun t s hs => hmt t s ?_⟩
    · rw [hgg, hl.key] at hr
      exact (h.all f ms r hr).like hl
    · rw [← hs]; unfold msOf Ctx.tv; rw [hl.mt, hl.ti]
  refine h.add (fun f ms r hk hr => ?_)
  rw [hkey] at hk
  subst hk
  simp only [headB, Bool.and_eq_true, Bool.not_eq_true'] at hh
  obtain ⟨⟨⟨h1, h2⟩, h3⟩, h4⟩ := hh
  exact (body_ok hG (draws_ok hG hmix) hf h1 (Nat.eq_of_beq_eq_true h2) (Nat.le_of_ble_eq_true h3) (by rw [hl.key, hkey]; exact h4) hr).like hl.symm
theorem addG_at {n : Nat} {F : List MV → Option MV} {g : Nat → List MV → Option MV} {ms : List MV} : addG n F g n ms = F ms := by simp [addG]
theorem addG_ne {n k : Nat} {F : List MV → Option MV} {g : Nat → List MV → Option MV} {ms : List MV} (h : Nat.beq k n = false) : addG n F g k ms = g k ms := by simp [addG, h]
end Dn
/-
  Steps through a function of the library by hand. Conditions: none.
-/
set_option linter.unusedSimpArgs false
set_option linter.unusedVariables false
namespace Dn
open Go
def upd (σ : Nat → Value) (d : Nat) (v : Value) : Nat → Value := fun t => bif Nat.beq t d then v else σ t
def ev (σ : Nat → Value) : Operand → Value
  | .tmp t => σ t
  | .const v => v
  | .global g => .pointer (some ⟨g, 0, none⟩)
  | .func f => .func (.func f) #[] #[]
/-- an activation's variables, as a function -/
structure Tm (a : Act) (n : Nat) (σ : Nat → Value) : Prop where
  defers : a.defers = []
  size : a.tmps.size = n
  get : ∀ t, a.tmps.getD t undef = σ t
theorem Tm.eval {a : Act} {n : Nat} {σ : Nat → Value} (h : Tm a n σ) : a.eval = ev σ := by
  funext x
  cases x with
  | tmp t => exact h.get t
  | _ => rfl
theorem Tm.put {a : Act} {n : Nat} {σ : Nat → Value} (h : Tm a n σ) {d : Nat} (hd : d < n) (v : Value) : Tm (a.put (some d) v) n (upd σ d v) := by
  refine ⟨h.defers, by simp [Act.put, h.size], fun t => ?_⟩
  show (a.tmps.setIfInBounds d v).getD t undef = bif Nat.beq t d then v else σ t
  by_cases ht : t = d
  · subst ht
    have : t < a.tmps.size := by rw [h.size]; exact hd
    simp [this]
  · have hb : Nat.beq t d = false := by
      cases hq : Nat.beq t d with
      | false => rfl
      | true => exact absurd (Nat.eq_of_beq_eq_true hq) ht
    rw [hb]
    have := h.get t
    simp only [Array.getD_eq_getD_getElem?, Array.getElem?_setIfInBounds_ne (Ne.symm ht), cond_false] at this ⊢
    exact this

theorem tm3 (v0 v1 v2 : Value) (k : Nat) : Tm { tmps := #[v0, v1, v2] ++ Array.replicate k undef, defers := [] } (k + 3) (upd (upd (upd (fun _ => undef) 0 v0) 1 v1) 2 v2) := by
  refine ⟨rfl, by simp [Nat.add_comm], fun q => ?_⟩
  by_cases h0 : q = 0
  · subst h0; show (#[v0, v1, v2] ++ Array.replicate k undef).getD 0 undef = v0; simp [Array.getElem?_append]
  by_cases h1 : q = 1
  · subst h1; show (#[v0, v1, v2] ++ Array.replicate k undef).getD 1 undef = v1; simp [Array.getElem?_append]
  by_cases h2 : q = 2
  · subst h2; show (#[v0, v1, v2] ++ Array.replicate k undef).getD 2 undef = v2; simp [Array.getElem?_append]
  have e : ∀ {x y : Nat}, x ≠ y → Nat.beq x y = false := fun {x y} h => by
    cases hq : Nat.beq x y with
    | false => rfl
    | true => exact absurd (Nat.eq_of_beq_eq_true hq) h
  simp only [upd, e h0, e h1, e h2, cond_false]
  have h3 : 3 ≤ q := by omega
  simp [Array.getElem?_append, Array.getElem?_replicate, show ¬ q < 3 by omega]
  by_cases hk : q - 3 < k <;> simp [hk]

section
variable {P : Program} {Q : Exit → Act → World → Prop} {ops : Array Oper} {o : Oper} {a : Act} {w w' : World} {n : Nat} {σ : Nat → Value}

theorem Tm.step {i d : Nat} {op : Op} {rest : List Nat} {v : Value} (htm : Tm a n σ) (hi : ops[i]? = some o) (ho : IsOp o d op) (hd : d < n) (hrun : (execOp (ev σ) o).run P w = .ok (.value v) w')
    (h : ∀ a', Tm a' n (upd σ d v) → wpOps P ops Q rest a' w') : wpOps P ops Q (i :: rest) a w := by
  refine wp_val hi ho.guard (v := v) (w' := w') (by rw [htm.eval]; exact hrun) ?_
  rw [ho.dst]
  exact h _ (htm.put hd v)

theorem run_mv {d : Nat} {x : Operand} {e : Operand → Value} (ho : IsOp o d (.move x)) (w : World) : (execOp e o).run P w = .ok (.value (e x)) w := by simp [execOp, ho.op]
theorem run_asg {d : Nat} {x : Operand} {e : Operand → Value} (ho : IsOp o d (.assign x)) (w : World) : (execOp e o).run P w = .ok (.value (e x)) w := by simp [execOp, ho.op]
theorem run_len {d : Nat} {t el : TypeId} {x : Operand} {e : Operand → Value} {ad : Option Addr} {m c : Nat} (ho : IsOp o d (.call { callee := .builtin .len, args := #[x], argTypes := #[t] })) (hu : P.underlying t = some (.slice el)) (hx : e x = .slice ad m c) (w : World) :
    (execOp e o).run P w = .ok (.value (.int .i64 m)) w := by simp [execOp, ho.op, resolve, invoke, builtin, hx, Builtin.len_, goInt, run_underlying hu]
theorem run_cap {d : Nat} {t el : TypeId} {x : Operand} {e : Operand → Value} {ad : Option Addr} {m c : Nat} (ho : IsOp o d (.call { callee := .builtin .cap, args := #[x], argTypes := #[t] })) (hu : P.underlying t = some (.slice el)) (hx : e x = .slice ad m c) (w : World) :
    (execOp e o).run P w = .ok (.value (.int .i64 c)) w := by simp [execOp, ho.op, resolve, invoke, builtin, hx, Builtin.cap_, goInt, run_underlying hu]
theorem run_ibin {d : Nat} {op : BinOp} {t t' : TypeId} {x y : Operand} {e : Operand → Value} {k : IntKind} {p q : Int} {v : Value} (ho : IsOp o d (.binOp op t x y t')) (hx : e x = .int k p) (hy : e y = .int k q)
    (hv : ∀ w : World, (Go.binOp op t (.int k p) (.int k q)).run P w = .ok v w) (w : World) : (execOp e o).run P w = .ok (.value v) w := by
  have hg : (eqGuard op t x y (.int k p) (.int k q)).run P w = .ok () w := by cases op <;> rfl
  simp [execOp, ho.op, hx, hy, hg, hv]
theorem run_ieq {d : Nat} {t t' : TypeId} {x y : Operand} {e : Operand → Value} {p q : Int} (ho : IsOp o d (.binOp .eql t x y t')) (hx : e x = .int .i64 p) (hy : e y = .int .i64 q) (w : World) :
    (execOp e o).run P w = .ok (.value (.bool (decide (p = q)))) w := run_ibin ho hx hy (fun w => by simp [Go.binOp, Op.intCmp]; rfl) w
theorem run_igtr {d : Nat} {t t' : TypeId} {x y : Operand} {e : Operand → Value} {p q : Int} (ho : IsOp o d (.binOp .gtr t x y t')) (hx : e x = .int .i64 p) (hy : e y = .int .i64 q) (w : World) :
    (execOp e o).run P w = .ok (.value (.bool (decide (q < p)))) w := run_ibin ho hx hy (fun w => by simp [Go.binOp, Op.intCmp]) w
theorem run_iadd {d : Nat} {t t' : TypeId} {x y : Operand} {e : Operand → Value} {p q : Nat} (ho : IsOp o d (.binOp .add t x y t')) (hx : e x = .int .i64 p) (hy : e y = .int .i64 q) (hl : p + q < 2 ^ 63) (w : World) :
    (execOp e o).run P w = .ok (.value (.int .i64 ((p + q : Nat) : Int))) w := run_ibin ho hx hy (fun w => by
      have : IntKind.i64.wrap ((p : Int) + (q : Int)) = ((p + q : Nat) : Int) := by rw [IntKind.wrap_i64]; omega
      simp [Go.binOp, Op.intArith, this]) w
theorem run_isub {d : Nat} {t t' : TypeId} {x y : Operand} {e : Operand → Value} {p q : Nat} (ho : IsOp o d (.binOp .sub t x y t')) (hx : e x = .int .i64 p) (hy : e y = .int .i64 q) (hl : p < 2 ^ 63) (hq : q ≤ p) (w : World) :
    (execOp e o).run P w = .ok (.value (.int .i64 ((p - q : Nat) : Int))) w := run_ibin ho hx hy (fun w => by
      have : IntKind.i64.wrap ((p : Int) - (q : Int)) = ((p - q : Nat) : Int) := by rw [IntKind.wrap_i64]; omega
      simp [Go.binOp, Op.intArith, this]) w
theorem run_not {d : Nat} {t : TypeId} {x : Operand} {e : Operand → Value} {b : Bool} (ho : IsOp o d (.unOp .not t x)) (hx : e x = .bool b) (w : World) :
    (execOp e o).run P w = .ok (.value (.bool (!b))) w := by simp [execOp, ho.op, hx, Op.unary]
/-- a part of a slice, from some index on -/
theorem run_from {d : Nat} {t el : TypeId} {x y : Operand} {e : Operand → Value} {ad : Option Addr} {m c l size : Nat} {i : TypeInfo} (ho : IsOp o d (.slice t x (some y) none none)) (hu : P.underlying t = some (.slice el)) (hi : P.info? el = some i) (hs : i.size = size)
    (hx : e x = .slice ad m c) (hy : e y = .int .i64 l) (hl : l ≤ m) (w : World) : (execOp e o).run P w = .ok (.value (.slice (if c = l then ad else ad.map (·.add (l * size))) (m - l) (c - l))) w := by
  simp [execOp, ho.op, Instr.sliceAt, Instr.slice, run_underlying hu, hx, hy, Go.sizeOf, typeInfo, hi, hs, Instr.sliceBounds, Instr.sliceBound, asIntOf, hl]
/-- .. up to some index -/
theorem run_upto {d : Nat} {t el : TypeId} {x y : Operand} {e : Operand → Value} {ad : Option Addr} {m c l size : Nat} {i : TypeInfo} (ho : IsOp o d (.slice t x none (some y) none)) (hu : P.underlying t = some (.slice el)) (hi : P.info? el = some i) (hs : i.size = size)
    (hx : e x = .slice ad m c) (hy : e y = .int .i64 l) (hl : l ≤ c) (w : World) : (execOp e o).run P w = .ok (.value (.slice ad l c)) w := by
  have h0 : ∀ q : Addr, q.add 0 = q := fun q => by obtain ⟨b, o, s⟩ := q; cases s <;> simp [Addr.add]
  have : (if c = 0 then ad else ad.map (·.add (0 * size))) = ad := by
    cases ad <;> simp [h0]
  simp [execOp, ho.op, Instr.sliceAt, Instr.slice, run_underlying hu, hx, hy, Go.sizeOf, typeInfo, hi, hs, Instr.sliceBounds, Instr.sliceBound, asIntOf, hl]
  cases ad <;> simp [h0]
theorem run_fromA {d : Nat} {t el : TypeId} {x y : Operand} {e : Operand → Value} {g m c l size : Nat} {i : TypeInfo} (ho : IsOp o d (.slice t x (some y) none none)) (hu : P.underlying t = some (.slice el)) (hi : P.info? el = some i) (hs : i.size = size)
    (hx : e x = .slice (some ⟨g, 0, none⟩) m c) (hy : e y = .int .i64 l) (hl : l ≤ m) (hc : l < c) (w : World) : (execOp e o).run P w = .ok (.value (.slice (some ⟨g, l * size, none⟩) (m - l) (c - l))) w := by
  rw [run_from ho hu hi hs hx hy hl w]
  have : ¬ c = l := by omega
  have h0 : (⟨g, 0, none⟩ : Addr).add (l * size) = ⟨g, l * size, none⟩ := by
    have := Addr.add_mid g 0 (l * size)
    rwa [Nat.zero_add] at this
  simp [this, h0]
theorem run_ext {d : Nat} {x y : Operand} {t1 t2 : TypeId} {f : FuncId} {e : Operand → Value} {v1 v2 v : Value} (ho : IsOp o d (.call { callee := .value (.func f), args := #[x, y], argTypes := #[t1, t2] })) (he : e (.func f) = .func (.func f) #[] #[]) (hx : e x = v1) (hy : e y = v2)
    (h : (callFunc f #[v1, v2]).run P w = .ok (.value v) w') : (execOp e o).run P w = .ok (.value v) w' := by
  simp [execOp, ho.op, resolve, invoke, builtin, he, hx, hy, Deferred.ofValue, h]
theorem run_app2 {d : Nat} {x y : Operand} {t1 t2 : TypeId} {e : Operand → Value} {v1 v2 v : Value} (ho : IsOp o d (.call { callee := .builtin .append, args := #[x, y], argTypes := #[t1, t2] })) (hx : e x = v1) (hy : e y = v2)
    (h : (Builtin.append_ #[t1, t2] o.type #[v1, v2]).run P w = .ok v w') : (execOp e o).run P w = .ok (.value v) w' := by
  simp [execOp, ho.op, resolve, invoke, builtin, hx, hy, h]
theorem run_cpy2 {d : Nat} {x y : Operand} {t1 t2 : TypeId} {e : Operand → Value} {v1 v2 v : Value} (ho : IsOp o d (.call { callee := .builtin .copy, args := #[x, y], argTypes := #[t1, t2] })) (hx : e x = v1) (hy : e y = v2)
    (h : (Builtin.copy_ #[t1, t2] o.type #[v1, v2]).run P w = .ok v w') : (execOp e o).run P w = .ok (.value v) w' := by
  simp [execOp, ho.op, resolve, invoke, builtin, hx, hy, h]
theorem run_copy_wide {dT sT ty elem t : TypeId} {g o dLen dCap sLen sCap size k : Nat} {a : Addr} {cur : Array Value} {cs : List Value} {i : TypeInfo} (hu : P.underlying dT = some (.slice elem)) (hi : P.info? elem = some i) (hs : i.size = size)
    (hg : w.heap[g]? = some (.cells cur t (0, 0))) (hk : Nat.min sLen dLen = k) (hn : cs.length = k * size)
    (hsrc : ∀ (j : Nat) v, cs[j]? = some v → w.cell? (a.add j) = some v) (hfit : o + cs.length ≤ cur.size) (h1 : ∀ v ∈ cs, v.oneCell' = true) :
    (Builtin.copy_ #[dT, sT] ty #[.slice (some ⟨g, o, none⟩) dLen dCap, .slice (some a) sLen sCap]).run P w =
      .ok (goInt k) (w.setRow g (cur.toList.take o ++ cs ++ cur.toList.drop (o + cs.length)).toArray) := by
  have hl := run_loadCells_list (P := P) w a cs hsrc
  have hst := run_storeCells_at P g o t cs 0 cur w hg (by simpa using hfit) h1
  simp only [Nat.add_zero] at hst
  simp [Builtin.copy_, run_underlying hu, Builtin.lenOf, Builtin.firstCells, Go.sizeOf, typeInfo, hi, hs, hk, ← hn, hl, hst]
/-- .. of nothing -/
theorem run_copy_none {dT sT ty elem : TypeId} {dLen dCap sCap : Nat} {ad bs : Option Addr} {i : TypeInfo} (hu : P.underlying dT = some (.slice elem)) (hi : P.info? elem = some i) :
    (Builtin.copy_ #[dT, sT] ty #[.slice ad dLen dCap, .slice bs 0 sCap]).run P w = .ok (goInt 0) w := by
  cases ad <;> cases bs <;> simp [Builtin.copy_, run_underlying hu, Builtin.lenOf, Builtin.firstCells, Go.sizeOf, typeInfo, hi, storeCells, loadCells, loadCellsFrom]

/-- a region whose order is open, whose operations can be run one after the other: all but the last one yield what they yield wherever they stand -/
def inOrd (ops : Array Oper) : Nat → Nat → Array Bool → Bool
  | 0, i, listed => (Region.ready .any ops (listed.setIfInBounds i true)).isEmpty && (Region.ready .any ops listed == [i])
  | k + 1, i, listed => Region.free .any ops listed i && (Region.ready .any ops listed).contains i && inOrd ops k (i + 1) (listed.setIfInBounds i true)
def drawB (ops : Array Oper) : Bool := Region.noSelect ops && Nat.blt 0 ops.size && inOrd ops (ops.size - 1) 0 (Array.replicate ops.size false)
/-- from here on in order -/
structure InOrd (ops : Array Oper) (k i : Nat) (listed : Array Bool) : Prop where
  sel : Region.noSelect ops = true
  ord : inOrd ops k i listed = true
theorem Tm.draw {N : Act → World → Prop} {i d : Nat} {op : Op} {k : Nat} {listed : Array Bool} {v : Value} (htm : Tm a n σ) (hi : ops[i]? = some o) (ho : IsOp o d op) (hd : d < n) (hb : InOrd ops (k + 1) i listed) (hrun : ∀ w, (execOp (ev σ) o).run P w = .ok (.value v) w)
    (h : ∀ a', Tm a' n (upd σ d v) → InOrd ops k (i + 1) (listed.setIfInBounds i true) → wpAny P .any ops (Only N) (k + 1) (listed.setIfInBounds i true) a' w) : wpAny P .any ops (Only N) (k + 2) listed a w := by
  obtain ⟨hs, hb⟩ := hb
  simp only [inOrd, Bool.and_eq_true] at hb
  obtain ⟨⟨h1, h2⟩, h3⟩ := hb
  refine wpAny_take hi hs h1 h2 (fun c a w hq => hq.elim) (v := v) (.inl ⟨by simp [Region.wanted, ho.guard], fun w => by rw [htm.eval]; exact hrun w⟩) ?_
  rw [ho.dst]
  exact h _ (htm.put hd v) ⟨hs, h3⟩
theorem Tm.last {N : Act → World → Prop} {i d : Nat} {op : Op} {listed : Array Bool} {v : Value} (htm : Tm a n σ) (hi : ops[i]? = some o) (ho : IsOp o d op) (hd : d < n) (hb : InOrd ops 0 i listed) (hrun : (execOp (ev σ) o).run P w = .ok (.value v) w')
    (h : ∀ a', Tm a' n (upd σ d v) → N a' w') : wpAny P .any ops (Only N) 1 listed a w := by
  obtain ⟨hs, hb⟩ := hb
  simp only [inOrd, Bool.and_eq_true, List.isEmpty_iff, beq_iff_eq] at hb
  obtain ⟨h1, h2⟩ := hb
  refine wpAny_all h2 (by simp) ?_
  intro j hj
  simp only [List.mem_singleton] at hj
  subst hj
  unfold wpOp
  simp only [hi, Region.wanted, ho.guard, if_true]
  left
  unfold Oper.wp
  rw [htm.eval, hrun, Oper.upon_value, ho.dst]
  exact wpAny_done h1 (h _ (htm.put hd v)) 0
theorem wp_draw {id k : Nat} (hm : P.follows .mixedOrders = true) (hb : drawB ops = true) (hk : ops.size = k + 1) (h : InOrd ops k 0 (Array.replicate (k + 1) false) → wpAny P .any ops (Only fun a w => Q .normal a w) (k + 1) (Array.replicate (k + 1) false) a { w with drawn := w.drawn + 1 }) :
    (Code.region id ops true).wp P Q a w := by
  simp only [drawB, Bool.and_eq_true] at hb
  rw [hk] at hb
  refine Code.wp_mono ?_ (wp_region_any (Q := Only fun a w => Q .normal a w) hm (by rw [hk]; exact h ⟨hb.1.1, hb.2⟩))
  intro x a' w' hx
  cases x <;> first | exact hx | exact hx.elim
theorem Tm.cond {x : Operand} {b : Bool} {A B : Code} (htm : Tm a n σ) (hx : ev σ x = .bool b) (h : (if b then A else B).wp P Q a w) : (Code.cond x A B).wp P Q a w := by
  refine wp_cond (t := b) (by rw [htm.eval]; exact hx) h
end
end Dn
/-
  slices.Insert of the library, walked. Printed by a program. Conditions: none.
-/
set_option linter.unusedSimpArgs false
set_option linter.unusedVariables false
namespace Dn
open Go
def insCode (r : Nat → Nat) (o : Nat → Oper) (tail : Code) : Code :=
  .seq (.region (r 0) #[o 0] false) (.seq (.region (r 1) #[o 1, o 2, o 3] false) (.seq (.region (r 2) #[o 4, o 5, o 6] false) (.seq (.seq (.region (r 3) #[o 7, o 8] false) (.cond (.tmp 16) (.seq (.region (r 4) #[o 9, o 10] false) .ret) .skip)) (.seq (.region (r 5) #[o 11, o 12, o 13] false) (.seq (.seq (.region (r 6) #[o 14, o 15, o 16] false) (.cond (.tmp 22) (.seq (.region (r 7) #[o 17, o 18, o 19, o 20] false) .ret) .skip)) (.seq (.seq (.region (r 8) #[o 21, o 22, o 23, o 24, o 25, o 26] false) (.cond (.tmp 31) (.seq (.region (r 9) #[o 27, o 28, o 29, o 30, o 31, o 32, o 33, o 34, o 35, o 36] false) (.seq (.region (r 10) #[o 37, o 38, o 39, o 40, o 41] false) (.seq (.region (r 11) #[o 42, o 43, o 44, o 45, o 46, o 47, o 48, o 49, o 50] true) (.seq (.region (r 12) #[o 51, o 52] false) .ret)))) .skip)) (.seq (.region (r 13) #[o 53, o 54, o 55, o 56, o 57, o 58] false) (.seq (.seq (.region (r 14) #[o 59, o 60, o 61, o 62, o 63, o 64, o 65, o 66] false) (.cond (.tmp 68) (.seq (.region (r 15) #[o 67, o 68, o 69, o 70, o 71, o 72, o 73, o 74, o 75] true) (.seq (.region (r 16) #[o 76, o 77, o 78, o 79, o 80] false) (.seq (.region (r 17) #[o 81, o 82] false) .ret))) .skip)) tail))))))))
structure InsOps (t ti tb fo : Nat) (o : Nat → Oper) : Prop where
  h0 : IsOp (o 0) 6 (.assign (.const (.slice none 0 0)))
  h1 : IsOp (o 1) 10 (.move (.tmp 0))
  h2 : IsOp (o 2) 11 (.move (.tmp 1))
  h3 : IsOp (o 3) 12 (.slice t (.tmp 10) (some (.tmp 11)) none none)
  h4 : IsOp (o 4) 13 (.move (.tmp 2))
  h5 : IsOp (o 5) 14 (.call { callee := .builtin .len, args := #[.tmp 13], argTypes := #[t] })
  h6 : IsOp (o 6) 7 (.assign (.tmp 14))
  h7 : IsOp (o 7) 15 (.move (.tmp 7))
  h8 : IsOp (o 8) 16 (.binOp .eql ti (.tmp 15) (.const (.int .i64 0)) ti)
  h9 : IsOp (o 9) 17 (.move (.tmp 0))
  h10 : IsOp (o 10) 6 (.assign (.tmp 17))
  h11 : IsOp (o 11) 18 (.move (.tmp 0))
  h12 : IsOp (o 12) 19 (.call { callee := .builtin .len, args := #[.tmp 18], argTypes := #[t] })
  h13 : IsOp (o 13) 8 (.assign (.tmp 19))
  h14 : IsOp (o 14) 20 (.move (.tmp 1))
  h15 : IsOp (o 15) 21 (.move (.tmp 8))
  h16 : IsOp (o 16) 22 (.binOp .eql ti (.tmp 20) (.tmp 21) ti)
  h17 : IsOp (o 17) 23 (.move (.tmp 0))
  h18 : IsOp (o 18) 24 (.move (.tmp 2))
  h19 : IsOp (o 19) 25 (.call { callee := .builtin .append, args := #[.tmp 23, .tmp 24], argTypes := #[t, t] })
  h20 : IsOp (o 20) 6 (.assign (.tmp 25))
  h21 : IsOp (o 21) 26 (.move (.tmp 8))
  h22 : IsOp (o 22) 27 (.move (.tmp 7))
  h23 : IsOp (o 23) 28 (.binOp .add ti (.tmp 26) (.tmp 27) ti)
  h24 : IsOp (o 24) 29 (.move (.tmp 0))
  h25 : IsOp (o 25) 30 (.call { callee := .builtin .cap, args := #[.tmp 29], argTypes := #[t] })
  h26 : IsOp (o 26) 31 (.binOp .gtr ti (.tmp 28) (.tmp 30) ti)
  h27 : IsOp (o 27) 32 (.move (.tmp 0))
  h28 : IsOp (o 28) 33 (.move (.tmp 1))
  h29 : IsOp (o 29) 34 (.slice t (.tmp 32) none (some (.tmp 33)) none)
  h30 : IsOp (o 30) 35 (.move (.tmp 8))
  h31 : IsOp (o 31) 36 (.move (.tmp 7))
  h32 : IsOp (o 32) 37 (.binOp .add ti (.tmp 35) (.tmp 36) ti)
  h33 : IsOp (o 33) 38 (.move (.tmp 1))
  h34 : IsOp (o 34) 39 (.binOp .sub ti (.tmp 37) (.tmp 38) ti)
  h35 : IsOp (o 35) 40 (.call { callee := .builtin .append, args := #[.tmp 34, .tmp 39], argTypes := #[t, ti] })
  h36 : IsOp (o 36) 9 (.assign (.tmp 40))
  h37 : IsOp (o 37) 41 (.move (.tmp 9))
  h38 : IsOp (o 38) 42 (.move (.tmp 1))
  h39 : IsOp (o 39) 43 (.slice t (.tmp 41) (some (.tmp 42)) none none)
  h40 : IsOp (o 40) 44 (.move (.tmp 2))
  h41 : IsOp (o 41) 45 (.call { callee := .builtin .copy, args := #[.tmp 43, .tmp 44], argTypes := #[t, t] })
  h42 : IsOp (o 42) 46 (.move (.tmp 9))
  h43 : IsOp (o 43) 47 (.move (.tmp 1))
  h44 : IsOp (o 44) 48 (.move (.tmp 7))
  h45 : IsOp (o 45) 49 (.binOp .add ti (.tmp 47) (.tmp 48) ti)
  h46 : IsOp (o 46) 50 (.slice t (.tmp 46) (some (.tmp 49)) none none)
  h47 : IsOp (o 47) 51 (.move (.tmp 0))
  h48 : IsOp (o 48) 52 (.move (.tmp 1))
  h49 : IsOp (o 49) 53 (.slice t (.tmp 51) (some (.tmp 52)) none none)
  h50 : IsOp (o 50) 54 (.call { callee := .builtin .copy, args := #[.tmp 50, .tmp 53], argTypes := #[t, t] })
  h51 : IsOp (o 51) 55 (.move (.tmp 9))
  h52 : IsOp (o 52) 6 (.assign (.tmp 55))
  h53 : IsOp (o 53) 56 (.move (.tmp 0))
  h54 : IsOp (o 54) 57 (.move (.tmp 8))
  h55 : IsOp (o 55) 58 (.move (.tmp 7))
  h56 : IsOp (o 56) 59 (.binOp .add ti (.tmp 57) (.tmp 58) ti)
  h57 : IsOp (o 57) 60 (.slice t (.tmp 56) none (some (.tmp 59)) none)
  h58 : IsOp (o 58) 0 (.assign (.tmp 60))
  h59 : IsOp (o 59) 61 (.move (.tmp 2))
  h60 : IsOp (o 60) 62 (.move (.tmp 0))
  h61 : IsOp (o 61) 63 (.move (.tmp 1))
  h62 : IsOp (o 62) 64 (.move (.tmp 7))
  h63 : IsOp (o 63) 65 (.binOp .add ti (.tmp 63) (.tmp 64) ti)
  h64 : IsOp (o 64) 66 (.slice t (.tmp 62) (some (.tmp 65)) none none)
  h65 : IsOp (o 65) 67 (.call { callee := .value (.func fo), args := #[.tmp 61, .tmp 66], argTypes := #[t, t] })
  h66 : IsOp (o 66) 68 (.unOp .not tb (.tmp 67))
  h67 : IsOp (o 67) 69 (.move (.tmp 0))
  h68 : IsOp (o 68) 70 (.move (.tmp 1))
  h69 : IsOp (o 69) 71 (.move (.tmp 7))
  h70 : IsOp (o 70) 72 (.binOp .add ti (.tmp 70) (.tmp 71) ti)
  h71 : IsOp (o 71) 73 (.slice t (.tmp 69) (some (.tmp 72)) none none)
  h72 : IsOp (o 72) 74 (.move (.tmp 0))
  h73 : IsOp (o 73) 75 (.move (.tmp 1))
  h74 : IsOp (o 74) 76 (.slice t (.tmp 74) (some (.tmp 75)) none none)
  h75 : IsOp (o 75) 77 (.call { callee := .builtin .copy, args := #[.tmp 73, .tmp 76], argTypes := #[t, t] })
  h76 : IsOp (o 76) 78 (.move (.tmp 0))
  h77 : IsOp (o 77) 79 (.move (.tmp 1))
  h78 : IsOp (o 78) 80 (.slice t (.tmp 78) (some (.tmp 79)) none none)
  h79 : IsOp (o 79) 81 (.move (.tmp 2))
  h80 : IsOp (o 80) 82 (.call { callee := .builtin .copy, args := #[.tmp 80, .tmp 81], argTypes := #[t, t] })
  h81 : IsOp (o 81) 83 (.move (.tmp 0))
  h82 : IsOp (o 82) 6 (.assign (.tmp 83))
  d11 : drawB #[o 42, o 43, o 44, o 45, o 46, o 47, o 48, o 49, o 50] = true
  d15 : drawB #[o 67, o 68, o 69, o 70, o 71, o 72, o 73, o 74, o 75] = true
structure InsFn (P : Program) (f t ti tb el fo : Nat) (fn : Func) (r : Nat → Nat) (o : Nat → Oper) (tail : Code) : Prop where
  pos : P.funcs[f]? = some fn
  name : (fn.name == "runtime.NumGoroutine") = false
  tmps : fn.ntmps = 95
  res : fn.results = #[.tmp 6]
  body : fn.body = some (insCode r o tail)
  ops : InsOps t ti tb fo o
  mix : P.follows .mixedOrders = true
  und : P.underlying t = some (.slice el)
section
variable {P : Program} {f t ti tb el fo : Nat} {fn : Func} {r : Nat → Nat} {o : Nat → Oper} {tail : Code} {ie : TypeInfo} {size n m c c2 i g g2 : Nat} {ad : Option Addr} {w : World}
theorem ins_ret {a : Act} {w : World} {σ : Nat → Value} {R : Ending → World → Prop} {v : Value} (hr : fn.results = #[.tmp 6]) (htm : Tm a 95 σ) (h6 : σ 6 = v) (h : R (.returned v) w) : bodyPost P fn R .ret a w := by
  refine ⟨htm.defers, v, ?_, h⟩
  have h2 : a.tmps[6]?.getD undef = v := by have := htm.get 6; rw [h6] at this; simpa using this
  simp [results, hr, h2]
theorem ins_end (hf : InsFn P f t ti tb el fo fn r o tail) (hie : P.info? el = some ie) (hse : ie.size = size) (hm : 0 < m) (hn : n ≤ c) (hc : c < 2 ^ 63) (hnm : n + m < 2 ^ 63) (hi : i = n) {v : Value} {w1 : World} (hrun : ∀ ty, (Builtin.append_ #[t, t] ty #[.slice ad n c, .slice (some ⟨g2, 0, none⟩) m c2]).run P w = .ok v w1)
    : Calls P f #[.slice ad n c, .int .i64 ((i : Nat) : Int), .slice (some ⟨g2, 0, none⟩) m c2] w fun x w' => x = .returned v ∧ w' = w1 := by
  refine calls_of_wp hf.pos hf.body ?_
  rw [hf.tmps]
  have key : ∀ a : Act, Tm a 95 (upd (upd (upd (fun _ => undef) 0 (.slice ad n c)) 1 (.int .i64 ((i : Nat) : Int))) 2 (.slice (some ⟨g2, 0, none⟩) m c2)) → (insCode r o tail).wp P (bodyPost P fn fun x w' => x = .returned v ∧ w' = w1) a w := by
   intro a htm
   unfold insCode
   refine wp_seq (wp_region ?_)
   rw [show List.range (#[o 0] : Array Oper).size = [0] from rfl]
   refine htm.step (v := .slice none 0 0) rfl hf.ops.h0 (by decide) (run_asg hf.ops.h0 _) (fun a htm => ?_)
   refine wp_seq (wp_region ?_)
   rw [show List.range (#[o 1, o 2, o 3] : Array Oper).size = [0, 1, 2] from rfl]
   refine htm.step (v := .slice ad n c) rfl hf.ops.h1 (by decide) (run_mv hf.ops.h1 _) (fun a htm => ?_)
   refine htm.step (v := .int .i64 ((i : Nat) : Int)) rfl hf.ops.h2 (by decide) (run_mv hf.ops.h2 _) (fun a htm => ?_)
   refine htm.step (v := .slice (if c = i then ad else (ad : Option Addr).map (·.add (i * size))) (n - i) (c - i)) rfl hf.ops.h3 (by decide) (run_from hf.ops.h3 hf.und hie hse rfl rfl (by omega) _) (fun a htm => ?_)
   refine wp_seq (wp_region ?_)
   rw [show List.range (#[o 4, o 5, o 6] : Array Oper).size = [0, 1, 2] from rfl]
   refine htm.step (v := .slice (some ⟨g2, 0, none⟩) m c2) rfl hf.ops.h4 (by decide) (run_mv hf.ops.h4 _) (fun a htm => ?_)
   refine htm.step (v := .int .i64 ((m : Nat) : Int)) rfl hf.ops.h5 (by decide) (run_len hf.ops.h5 hf.und rfl _) (fun a htm => ?_)
   refine htm.step (v := .int .i64 ((m : Nat) : Int)) rfl hf.ops.h6 (by decide) (run_asg hf.ops.h6 _) (fun a htm => ?_)
   refine wp_seq ?_
   refine wp_seq (wp_region ?_)
   rw [show List.range (#[o 7, o 8] : Array Oper).size = [0, 1] from rfl]
   refine htm.step (v := .int .i64 ((m : Nat) : Int)) rfl hf.ops.h7 (by decide) (run_mv hf.ops.h7 _) (fun a htm => ?_)
   refine htm.step (v := .bool (decide (((m : Nat) : Int) = ((0 : Nat) : Int)))) rfl hf.ops.h8 (by decide) (run_ieq hf.ops.h8 rfl rfl _) (fun a htm => ?_)
   refine htm.cond (b := false) (by show Value.bool (decide (((m : Nat) : Int) = ((0 : Nat) : Int))) = _; rw [decide_eq_false (by omega)]) ?_
   simp only [Bool.false_eq_true, if_false]
   refine wp_skip ?_
   refine wp_seq (wp_region ?_)
   rw [show List.range (#[o 11, o 12, o 13] : Array Oper).size = [0, 1, 2] from rfl]
   refine htm.step (v := .slice ad n c) rfl hf.ops.h11 (by decide) (run_mv hf.ops.h11 _) (fun a htm => ?_)
   refine htm.step (v := .int .i64 ((n : Nat) : Int)) rfl hf.ops.h12 (by decide) (run_len hf.ops.h12 hf.und rfl _) (fun a htm => ?_)
   refine htm.step (v := .int .i64 ((n : Nat) : Int)) rfl hf.ops.h13 (by decide) (run_asg hf.ops.h13 _) (fun a htm => ?_)
   refine wp_seq ?_
   refine wp_seq (wp_region ?_)
   rw [show List.range (#[o 14, o 15, o 16] : Array Oper).size = [0, 1, 2] from rfl]
   refine htm.step (v := .int .i64 ((i : Nat) : Int)) rfl hf.ops.h14 (by decide) (run_mv hf.ops.h14 _) (fun a htm => ?_)
   refine htm.step (v := .int .i64 ((n : Nat) : Int)) rfl hf.ops.h15 (by decide) (run_mv hf.ops.h15 _) (fun a htm => ?_)
   refine htm.step (v := .bool (decide (((i : Nat) : Int) = ((n : Nat) : Int)))) rfl hf.ops.h16 (by decide) (run_ieq hf.ops.h16 rfl rfl _) (fun a htm => ?_)
   refine htm.cond (b := true) (by show Value.bool (decide (((i : Nat) : Int) = ((n : Nat) : Int))) = _; rw [decide_eq_true (by omega)]) ?_
   simp only [if_true]
   refine wp_seq (wp_region ?_)
   rw [show List.range (#[o 17, o 18, o 19, o 20] : Array Oper).size = [0, 1, 2, 3] from rfl]
   refine htm.step (v := .slice ad n c) rfl hf.ops.h17 (by decide) (run_mv hf.ops.h17 _) (fun a htm => ?_)
   refine htm.step (v := .slice (some ⟨g2, 0, none⟩) m c2) rfl hf.ops.h18 (by decide) (run_mv hf.ops.h18 _) (fun a htm => ?_)
   refine htm.step (v := v) rfl hf.ops.h19 (by decide) (run_app2 hf.ops.h19 rfl rfl (hrun _)) (fun a htm => ?_)
   refine htm.step (v := v) rfl hf.ops.h20 (by decide) (run_asg hf.ops.h20 _) (fun a htm => ?_)
   refine wp_ret ?_
   show bodyPost P fn (fun x wq => x = .returned (v) ∧ wq = w1) .ret a w1
   refine ins_ret hf.res htm (v := v) rfl ?_
   exact ⟨rfl, rfl⟩
  exact key _ (tm3 _ _ _ 92)
theorem ins_grow (hf : InsFn P f t ti tb el fo fn r o tail) (hie : P.info? el = some ie) (hse : ie.size = size) (hm : 0 < m) (hn : n ≤ c) (hc : c < 2 ^ 63) (hnm : n + m < 2 ^ 63) (hi : i < n) (hroom : c < n + m) {g9 G : Nat} {v1 v2 : Value} {w1 w2 w3 : World} (hG : n + m ≤ G) (hA : ∀ ty, (Builtin.append_ #[t, ti] ty #[.slice (some ⟨g, 0, none⟩) i c, .int .i64 ((n + m - i : Nat) : Int)]).run P w = .ok (.slice (some ⟨g9, 0, none⟩) (n + m) G) w1)
    (hB : ∀ ty, (Builtin.copy_ #[t, t] ty #[.slice (some ⟨g9, i * size, none⟩) (n + m - i) (G - i), .slice (some ⟨g2, 0, none⟩) m c2]).run P w1 = .ok v1 w2)
    (hC : ∀ ty, (Builtin.copy_ #[t, t] ty #[.slice (some ⟨g9, (i + m) * size, none⟩) (n + m - (i + m)) (G - (i + m)), .slice (some ⟨g, i * size, none⟩) (n - i) (c - i)]).run P { w2 with drawn := w2.drawn + 1 } = .ok v2 w3)
    : Calls P f #[.slice (some ⟨g, 0, none⟩) n c, .int .i64 ((i : Nat) : Int), .slice (some ⟨g2, 0, none⟩) m c2] w fun x w' => x = .returned (.slice (some ⟨g9, 0, none⟩) (n + m) G) ∧ w' = w3 := by
  refine calls_of_wp hf.pos hf.body ?_
  rw [hf.tmps]
  have key : ∀ a : Act, Tm a 95 (upd (upd (upd (fun _ => undef) 0 (.slice (some ⟨g, 0, none⟩) n c)) 1 (.int .i64 ((i : Nat) : Int))) 2 (.slice (some ⟨g2, 0, none⟩) m c2)) → (insCode r o tail).wp P (bodyPost P fn fun x w' => x = .returned (.slice (some ⟨g9, 0, none⟩) (n + m) G) ∧ w' = w3) a w := by
   intro a htm
   unfold insCode
   refine wp_seq (wp_region ?_)
   rw [show List.range (#[o 0] : Array Oper).size = [0] from rfl]
   refine htm.step (v := .slice none 0 0) rfl hf.ops.h0 (by decide) (run_asg hf.ops.h0 _) (fun a htm => ?_)
   refine wp_seq (wp_region ?_)
   rw [show List.range (#[o 1, o 2, o 3] : Array Oper).size = [0, 1, 2] from rfl]
   refine htm.step (v := .slice (some ⟨g, 0, none⟩) n c) rfl hf.ops.h1 (by decide) (run_mv hf.ops.h1 _) (fun a htm => ?_)
   refine htm.step (v := .int .i64 ((i : Nat) : Int)) rfl hf.ops.h2 (by decide) (run_mv hf.ops.h2 _) (fun a htm => ?_)
   refine htm.step (v := .slice (if c = i then (some ⟨g, 0, none⟩) else ((some ⟨g, 0, none⟩) : Option Addr).map (·.add (i * size))) (n - i) (c - i)) rfl hf.ops.h3 (by decide) (run_from hf.ops.h3 hf.und hie hse rfl rfl (by omega) _) (fun a htm => ?_)
   refine wp_seq (wp_region ?_)
   rw [show List.range (#[o 4, o 5, o 6] : Array Oper).size = [0, 1, 2] from rfl]
   refine htm.step (v := .slice (some ⟨g2, 0, none⟩) m c2) rfl hf.ops.h4 (by decide) (run_mv hf.ops.h4 _) (fun a htm => ?_)
   refine htm.step (v := .int .i64 ((m : Nat) : Int)) rfl hf.ops.h5 (by decide) (run_len hf.ops.h5 hf.und rfl _) (fun a htm => ?_)
   refine htm.step (v := .int .i64 ((m : Nat) : Int)) rfl hf.ops.h6 (by decide) (run_asg hf.ops.h6 _) (fun a htm => ?_)
   refine wp_seq ?_
   refine wp_seq (wp_region ?_)
   rw [show List.range (#[o 7, o 8] : Array Oper).size = [0, 1] from rfl]
   refine htm.step (v := .int .i64 ((m : Nat) : Int)) rfl hf.ops.h7 (by decide) (run_mv hf.ops.h7 _) (fun a htm => ?_)
   refine htm.step (v := .bool (decide (((m : Nat) : Int) = ((0 : Nat) : Int)))) rfl hf.ops.h8 (by decide) (run_ieq hf.ops.h8 rfl rfl _) (fun a htm => ?_)
   refine htm.cond (b := false) (by show Value.bool (decide (((m : Nat) : Int) = ((0 : Nat) : Int))) = _; rw [decide_eq_false (by omega)]) ?_
   simp only [Bool.false_eq_true, if_false]
   refine wp_skip ?_
   refine wp_seq (wp_region ?_)
   rw [show List.range (#[o 11, o 12, o 13] : Array Oper).size = [0, 1, 2] from rfl]
   refine htm.step (v := .slice (some ⟨g, 0, none⟩) n c) rfl hf.ops.h11 (by decide) (run_mv hf.ops.h11 _) (fun a htm => ?_)
   refine htm.step (v := .int .i64 ((n : Nat) : Int)) rfl hf.ops.h12 (by decide) (run_len hf.ops.h12 hf.und rfl _) (fun a htm => ?_)
   refine htm.step (v := .int .i64 ((n : Nat) : Int)) rfl hf.ops.h13 (by decide) (run_asg hf.ops.h13 _) (fun a htm => ?_)
   refine wp_seq ?_
   refine wp_seq (wp_region ?_)
   rw [show List.range (#[o 14, o 15, o 16] : Array Oper).size = [0, 1, 2] from rfl]
   refine htm.step (v := .int .i64 ((i : Nat) : Int)) rfl hf.ops.h14 (by decide) (run_mv hf.ops.h14 _) (fun a htm => ?_)
   refine htm.step (v := .int .i64 ((n : Nat) : Int)) rfl hf.ops.h15 (by decide) (run_mv hf.ops.h15 _) (fun a htm => ?_)
   refine htm.step (v := .bool (decide (((i : Nat) : Int) = ((n : Nat) : Int)))) rfl hf.ops.h16 (by decide) (run_ieq hf.ops.h16 rfl rfl _) (fun a htm => ?_)
   refine htm.cond (b := false) (by show Value.bool (decide (((i : Nat) : Int) = ((n : Nat) : Int))) = _; rw [decide_eq_false (by omega)]) ?_
   simp only [Bool.false_eq_true, if_false]
   refine wp_skip ?_
   refine wp_seq ?_
   refine wp_seq (wp_region ?_)
   rw [show List.range (#[o 21, o 22, o 23, o 24, o 25, o 26] : Array Oper).size = [0, 1, 2, 3, 4, 5] from rfl]
   refine htm.step (v := .int .i64 ((n : Nat) : Int)) rfl hf.ops.h21 (by decide) (run_mv hf.ops.h21 _) (fun a htm => ?_)
   refine htm.step (v := .int .i64 ((m : Nat) : Int)) rfl hf.ops.h22 (by decide) (run_mv hf.ops.h22 _) (fun a htm => ?_)
   refine htm.step (v := .int .i64 ((n + m : Nat) : Int)) rfl hf.ops.h23 (by decide) (run_iadd hf.ops.h23 rfl rfl (by omega) _) (fun a htm => ?_)
   refine htm.step (v := .slice (some ⟨g, 0, none⟩) n c) rfl hf.ops.h24 (by decide) (run_mv hf.ops.h24 _) (fun a htm => ?_)
   refine htm.step (v := .int .i64 ((c : Nat) : Int)) rfl hf.ops.h25 (by decide) (run_cap hf.ops.h25 hf.und rfl _) (fun a htm => ?_)
   refine htm.step (v := .bool (decide (((c : Nat) : Int) < (((n + m) : Nat) : Int)))) rfl hf.ops.h26 (by decide) (run_igtr hf.ops.h26 rfl rfl _) (fun a htm => ?_)
   refine htm.cond (b := true) (by show Value.bool (decide (((c : Nat) : Int) < ((n + m : Nat) : Int))) = _; rw [decide_eq_true (by omega)]) ?_
   simp only [if_true]
   refine wp_seq (wp_region ?_)
   rw [show List.range (#[o 27, o 28, o 29, o 30, o 31, o 32, o 33, o 34, o 35, o 36] : Array Oper).size = [0, 1, 2, 3, 4, 5, 6, 7, 8, 9] from rfl]
   refine htm.step (v := .slice (some ⟨g, 0, none⟩) n c) rfl hf.ops.h27 (by decide) (run_mv hf.ops.h27 _) (fun a htm => ?_)
   refine htm.step (v := .int .i64 ((i : Nat) : Int)) rfl hf.ops.h28 (by decide) (run_mv hf.ops.h28 _) (fun a htm => ?_)
   refine htm.step (v := .slice (some ⟨g, 0, none⟩) i c) rfl hf.ops.h29 (by decide) (run_upto hf.ops.h29 hf.und hie hse rfl rfl (by omega) _) (fun a htm => ?_)
   refine htm.step (v := .int .i64 ((n : Nat) : Int)) rfl hf.ops.h30 (by decide) (run_mv hf.ops.h30 _) (fun a htm => ?_)
   refine htm.step (v := .int .i64 ((m : Nat) : Int)) rfl hf.ops.h31 (by decide) (run_mv hf.ops.h31 _) (fun a htm => ?_)
   refine htm.step (v := .int .i64 ((n + m : Nat) : Int)) rfl hf.ops.h32 (by decide) (run_iadd hf.ops.h32 rfl rfl (by omega) _) (fun a htm => ?_)
   refine htm.step (v := .int .i64 ((i : Nat) : Int)) rfl hf.ops.h33 (by decide) (run_mv hf.ops.h33 _) (fun a htm => ?_)
   refine htm.step (v := .int .i64 (((n + m) - i : Nat) : Int)) rfl hf.ops.h34 (by decide) (run_isub hf.ops.h34 rfl rfl (by omega) (by omega) _) (fun a htm => ?_)
   refine htm.step (v := .slice (some ⟨g9, 0, none⟩) (n + m) G) rfl hf.ops.h35 (by decide) (run_app2 hf.ops.h35 rfl rfl (hA _)) (fun a htm => ?_)
   refine htm.step (v := .slice (some ⟨g9, 0, none⟩) (n + m) G) rfl hf.ops.h36 (by decide) (run_asg hf.ops.h36 _) (fun a htm => ?_)
   refine wp_seq (wp_region ?_)
   rw [show List.range (#[o 37, o 38, o 39, o 40, o 41] : Array Oper).size = [0, 1, 2, 3, 4] from rfl]
   refine htm.step (v := .slice (some ⟨g9, 0, none⟩) (n + m) G) rfl hf.ops.h37 (by decide) (run_mv hf.ops.h37 _) (fun a htm => ?_)
   refine htm.step (v := .int .i64 ((i : Nat) : Int)) rfl hf.ops.h38 (by decide) (run_mv hf.ops.h38 _) (fun a htm => ?_)
   refine htm.step (v := .slice (some ⟨g9, i * size, none⟩) (n + m - i) (G - i)) rfl hf.ops.h39 (by decide) (run_fromA hf.ops.h39 hf.und hie hse rfl rfl (by omega) (by omega) _) (fun a htm => ?_)
   refine htm.step (v := .slice (some ⟨g2, 0, none⟩) m c2) rfl hf.ops.h40 (by decide) (run_mv hf.ops.h40 _) (fun a htm => ?_)
   refine htm.step (v := v1) rfl hf.ops.h41 (by decide) (run_cpy2 hf.ops.h41 rfl rfl (hB _)) (fun a htm => ?_)
   refine wp_seq (wp_draw hf.mix hf.ops.d11 (k := 8) rfl fun hord => ?_)
   refine htm.draw (v := .slice (some ⟨g9, 0, none⟩) (n + m) G) rfl hf.ops.h42 (by decide) hord (fun w => run_mv hf.ops.h42 _) (fun a htm hord => ?_)
   refine htm.draw (v := .int .i64 ((i : Nat) : Int)) rfl hf.ops.h43 (by decide) hord (fun w => run_mv hf.ops.h43 _) (fun a htm hord => ?_)
   refine htm.draw (v := .int .i64 ((m : Nat) : Int)) rfl hf.ops.h44 (by decide) hord (fun w => run_mv hf.ops.h44 _) (fun a htm hord => ?_)
   refine htm.draw (v := .int .i64 ((i + m : Nat) : Int)) rfl hf.ops.h45 (by decide) hord (fun w => run_iadd hf.ops.h45 rfl rfl (by omega) _) (fun a htm hord => ?_)
   refine htm.draw (v := .slice (some ⟨g9, (i + m) * size, none⟩) (n + m - (i + m)) (G - (i + m))) rfl hf.ops.h46 (by decide) hord (fun w => run_fromA hf.ops.h46 hf.und hie hse rfl rfl (by omega) (by omega) _) (fun a htm hord => ?_)
   refine htm.draw (v := .slice (some ⟨g, 0, none⟩) n c) rfl hf.ops.h47 (by decide) hord (fun w => run_mv hf.ops.h47 _) (fun a htm hord => ?_)
   refine htm.draw (v := .int .i64 ((i : Nat) : Int)) rfl hf.ops.h48 (by decide) hord (fun w => run_mv hf.ops.h48 _) (fun a htm hord => ?_)
   refine htm.draw (v := .slice (some ⟨g, i * size, none⟩) (n - i) (c - i)) rfl hf.ops.h49 (by decide) hord (fun w => run_fromA hf.ops.h49 hf.und hie hse rfl rfl (by omega) (by omega) _) (fun a htm hord => ?_)
   refine htm.last (v := v2) rfl hf.ops.h50 (by decide) hord (run_cpy2 hf.ops.h50 rfl rfl (hC _)) (fun a htm => ?_)
   refine wp_seq (wp_region ?_)
   rw [show List.range (#[o 51, o 52] : Array Oper).size = [0, 1] from rfl]
   refine htm.step (v := .slice (some ⟨g9, 0, none⟩) (n + m) G) rfl hf.ops.h51 (by decide) (run_mv hf.ops.h51 _) (fun a htm => ?_)
   refine htm.step (v := .slice (some ⟨g9, 0, none⟩) (n + m) G) rfl hf.ops.h52 (by decide) (run_asg hf.ops.h52 _) (fun a htm => ?_)
   refine wp_ret ?_
   show bodyPost P fn (fun x wq => x = .returned (.slice (some ⟨g9, 0, none⟩) (n + m) G) ∧ wq = w3) .ret a w3
   refine ins_ret hf.res htm (v := .slice (some ⟨g9, 0, none⟩) (n + m) G) rfl ?_
   exact ⟨rfl, rfl⟩
  exact key _ (tm3 _ _ _ 92)
theorem ins_room (hf : InsFn P f t ti tb el fo fn r o tail) (hie : P.info? el = some ie) (hse : ie.size = size) (hm : 0 < m) (hn : n ≤ c) (hc : c < 2 ^ 63) (hnm : n + m < 2 ^ 63) (hi : i < n) (hroom : n + m ≤ c) {v1 v2 : Value} {w1 w2 : World} (hO : (callFunc fo #[.slice (some ⟨g2, 0, none⟩) m c2, .slice (some ⟨g, (i + m) * size, none⟩) (n + m - (i + m)) (c - (i + m))]).run P w = .ok (.value (.bool false)) w)
    (hB : ∀ ty, (Builtin.copy_ #[t, t] ty #[.slice (some ⟨g, (i + m) * size, none⟩) (n + m - (i + m)) (c - (i + m)), .slice (some ⟨g, i * size, none⟩) (n + m - i) (c - i)]).run P { w with drawn := w.drawn + 1 } = .ok v1 w1)
    (hC : ∀ ty, (Builtin.copy_ #[t, t] ty #[.slice (some ⟨g, i * size, none⟩) (n + m - i) (c - i), .slice (some ⟨g2, 0, none⟩) m c2]).run P w1 = .ok v2 w2)
    : Calls P f #[.slice (some ⟨g, 0, none⟩) n c, .int .i64 ((i : Nat) : Int), .slice (some ⟨g2, 0, none⟩) m c2] w fun x w' => x = .returned (.slice (some ⟨g, 0, none⟩) (n + m) c) ∧ w' = w2 := by
  refine calls_of_wp hf.pos hf.body ?_
  rw [hf.tmps]
  have key : ∀ a : Act, Tm a 95 (upd (upd (upd (fun _ => undef) 0 (.slice (some ⟨g, 0, none⟩) n c)) 1 (.int .i64 ((i : Nat) : Int))) 2 (.slice (some ⟨g2, 0, none⟩) m c2)) → (insCode r o tail).wp P (bodyPost P fn fun x w' => x = .returned (.slice (some ⟨g, 0, none⟩) (n + m) c) ∧ w' = w2) a w := by
   intro a htm
   unfold insCode
   refine wp_seq (wp_region ?_)
   rw [show List.range (#[o 0] : Array Oper).size = [0] from rfl]
   refine htm.step (v := .slice none 0 0) rfl hf.ops.h0 (by decide) (run_asg hf.ops.h0 _) (fun a htm => ?_)
   refine wp_seq (wp_region ?_)
   rw [show List.range (#[o 1, o 2, o 3] : Array Oper).size = [0, 1, 2] from rfl]
   refine htm.step (v := .slice (some ⟨g, 0, none⟩) n c) rfl hf.ops.h1 (by decide) (run_mv hf.ops.h1 _) (fun a htm => ?_)
   refine htm.step (v := .int .i64 ((i : Nat) : Int)) rfl hf.ops.h2 (by decide) (run_mv hf.ops.h2 _) (fun a htm => ?_)
   refine htm.step (v := .slice (if c = i then (some ⟨g, 0, none⟩) else ((some ⟨g, 0, none⟩) : Option Addr).map (·.add (i * size))) (n - i) (c - i)) rfl hf.ops.h3 (by decide) (run_from hf.ops.h3 hf.und hie hse rfl rfl (by omega) _) (fun a htm => ?_)
   refine wp_seq (wp_region ?_)
   rw [show List.range (#[o 4, o 5, o 6] : Array Oper).size = [0, 1, 2] from rfl]
   refine htm.step (v := .slice (some ⟨g2, 0, none⟩) m c2) rfl hf.ops.h4 (by decide) (run_mv hf.ops.h4 _) (fun a htm => ?_)
   refine htm.step (v := .int .i64 ((m : Nat) : Int)) rfl hf.ops.h5 (by decide) (run_len hf.ops.h5 hf.und rfl _) (fun a htm => ?_)
   refine htm.step (v := .int .i64 ((m : Nat) : Int)) rfl hf.ops.h6 (by decide) (run_asg hf.ops.h6 _) (fun a htm => ?_)
   refine wp_seq ?_
   refine wp_seq (wp_region ?_)
   rw [show List.range (#[o 7, o 8] : Array Oper).size = [0, 1] from rfl]
   refine htm.step (v := .int .i64 ((m : Nat) : Int)) rfl hf.ops.h7 (by decide) (run_mv hf.ops.h7 _) (fun a htm => ?_)
   refine htm.step (v := .bool (decide (((m : Nat) : Int) = ((0 : Nat) : Int)))) rfl hf.ops.h8 (by decide) (run_ieq hf.ops.h8 rfl rfl _) (fun a htm => ?_)
   refine htm.cond (b := false) (by show Value.bool (decide (((m : Nat) : Int) = ((0 : Nat) : Int))) = _; rw [decide_eq_false (by omega)]) ?_
   simp only [Bool.false_eq_true, if_false]
   refine wp_skip ?_
   refine wp_seq (wp_region ?_)
   rw [show List.range (#[o 11, o 12, o 13] : Array Oper).size = [0, 1, 2] from rfl]
   refine htm.step (v := .slice (some ⟨g, 0, none⟩) n c) rfl hf.ops.h11 (by decide) (run_mv hf.ops.h11 _) (fun a htm => ?_)
   refine htm.step (v := .int .i64 ((n : Nat) : Int)) rfl hf.ops.h12 (by decide) (run_len hf.ops.h12 hf.und rfl _) (fun a htm => ?_)
   refine htm.step (v := .int .i64 ((n : Nat) : Int)) rfl hf.ops.h13 (by decide) (run_asg hf.ops.h13 _) (fun a htm => ?_)
   refine wp_seq ?_
   refine wp_seq (wp_region ?_)
   rw [show List.range (#[o 14, o 15, o 16] : Array Oper).size = [0, 1, 2] from rfl]
   refine htm.step (v := .int .i64 ((i : Nat) : Int)) rfl hf.ops.h14 (by decide) (run_mv hf.ops.h14 _) (fun a htm => ?_)
   refine htm.step (v := .int .i64 ((n : Nat) : Int)) rfl hf.ops.h15 (by decide) (run_mv hf.ops.h15 _) (fun a htm => ?_)
   refine htm.step (v := .bool (decide (((i : Nat) : Int) = ((n : Nat) : Int)))) rfl hf.ops.h16 (by decide) (run_ieq hf.ops.h16 rfl rfl _) (fun a htm => ?_)
   refine htm.cond (b := false) (by show Value.bool (decide (((i : Nat) : Int) = ((n : Nat) : Int))) = _; rw [decide_eq_false (by omega)]) ?_
   simp only [Bool.false_eq_true, if_false]
   refine wp_skip ?_
   refine wp_seq ?_
   refine wp_seq (wp_region ?_)
   rw [show List.range (#[o 21, o 22, o 23, o 24, o 25, o 26] : Array Oper).size = [0, 1, 2, 3, 4, 5] from rfl]
   refine htm.step (v := .int .i64 ((n : Nat) : Int)) rfl hf.ops.h21 (by decide) (run_mv hf.ops.h21 _) (fun a htm => ?_)
   refine htm.step (v := .int .i64 ((m : Nat) : Int)) rfl hf.ops.h22 (by decide) (run_mv hf.ops.h22 _) (fun a htm => ?_)
   refine htm.step (v := .int .i64 ((n + m : Nat) : Int)) rfl hf.ops.h23 (by decide) (run_iadd hf.ops.h23 rfl rfl (by omega) _) (fun a htm => ?_)
   refine htm.step (v := .slice (some ⟨g, 0, none⟩) n c) rfl hf.ops.h24 (by decide) (run_mv hf.ops.h24 _) (fun a htm => ?_)
   refine htm.step (v := .int .i64 ((c : Nat) : Int)) rfl hf.ops.h25 (by decide) (run_cap hf.ops.h25 hf.und rfl _) (fun a htm => ?_)
   refine htm.step (v := .bool (decide (((c : Nat) : Int) < (((n + m) : Nat) : Int)))) rfl hf.ops.h26 (by decide) (run_igtr hf.ops.h26 rfl rfl _) (fun a htm => ?_)
   refine htm.cond (b := false) (by show Value.bool (decide (((c : Nat) : Int) < ((n + m : Nat) : Int))) = _; rw [decide_eq_false (by omega)]) ?_
   simp only [Bool.false_eq_true, if_false]
   refine wp_skip ?_
   refine wp_seq (wp_region ?_)
   rw [show List.range (#[o 53, o 54, o 55, o 56, o 57, o 58] : Array Oper).size = [0, 1, 2, 3, 4, 5] from rfl]
   refine htm.step (v := .slice (some ⟨g, 0, none⟩) n c) rfl hf.ops.h53 (by decide) (run_mv hf.ops.h53 _) (fun a htm => ?_)
   refine htm.step (v := .int .i64 ((n : Nat) : Int)) rfl hf.ops.h54 (by decide) (run_mv hf.ops.h54 _) (fun a htm => ?_)
   refine htm.step (v := .int .i64 ((m : Nat) : Int)) rfl hf.ops.h55 (by decide) (run_mv hf.ops.h55 _) (fun a htm => ?_)
   refine htm.step (v := .int .i64 ((n + m : Nat) : Int)) rfl hf.ops.h56 (by decide) (run_iadd hf.ops.h56 rfl rfl (by omega) _) (fun a htm => ?_)
   refine htm.step (v := .slice (some ⟨g, 0, none⟩) (n + m) c) rfl hf.ops.h57 (by decide) (run_upto hf.ops.h57 hf.und hie hse rfl rfl (by omega) _) (fun a htm => ?_)
   refine htm.step (v := .slice (some ⟨g, 0, none⟩) (n + m) c) rfl hf.ops.h58 (by decide) (run_asg hf.ops.h58 _) (fun a htm => ?_)
   refine wp_seq ?_
   refine wp_seq (wp_region ?_)
   rw [show List.range (#[o 59, o 60, o 61, o 62, o 63, o 64, o 65, o 66] : Array Oper).size = [0, 1, 2, 3, 4, 5, 6, 7] from rfl]
   refine htm.step (v := .slice (some ⟨g2, 0, none⟩) m c2) rfl hf.ops.h59 (by decide) (run_mv hf.ops.h59 _) (fun a htm => ?_)
   refine htm.step (v := .slice (some ⟨g, 0, none⟩) (n + m) c) rfl hf.ops.h60 (by decide) (run_mv hf.ops.h60 _) (fun a htm => ?_)
   refine htm.step (v := .int .i64 ((i : Nat) : Int)) rfl hf.ops.h61 (by decide) (run_mv hf.ops.h61 _) (fun a htm => ?_)
   refine htm.step (v := .int .i64 ((m : Nat) : Int)) rfl hf.ops.h62 (by decide) (run_mv hf.ops.h62 _) (fun a htm => ?_)
   refine htm.step (v := .int .i64 ((i + m : Nat) : Int)) rfl hf.ops.h63 (by decide) (run_iadd hf.ops.h63 rfl rfl (by omega) _) (fun a htm => ?_)
   refine htm.step (v := .slice (some ⟨g, (i + m) * size, none⟩) (n + m - (i + m)) (c - (i + m))) rfl hf.ops.h64 (by decide) (run_fromA hf.ops.h64 hf.und hie hse rfl rfl (by omega) (by omega) _) (fun a htm => ?_)
   refine htm.step (v := .bool false) rfl hf.ops.h65 (by decide) (run_ext hf.ops.h65 rfl rfl rfl hO) (fun a htm => ?_)
   refine htm.step (v := .bool (!false)) rfl hf.ops.h66 (by decide) (run_not hf.ops.h66 rfl _) (fun a htm => ?_)
   refine htm.cond (b := true) rfl ?_
   simp only [if_true]
   refine wp_seq (wp_draw hf.mix hf.ops.d15 (k := 8) rfl fun hord => ?_)
   refine htm.draw (v := .slice (some ⟨g, 0, none⟩) (n + m) c) rfl hf.ops.h67 (by decide) hord (fun w => run_mv hf.ops.h67 _) (fun a htm hord => ?_)
   refine htm.draw (v := .int .i64 ((i : Nat) : Int)) rfl hf.ops.h68 (by decide) hord (fun w => run_mv hf.ops.h68 _) (fun a htm hord => ?_)
   refine htm.draw (v := .int .i64 ((m : Nat) : Int)) rfl hf.ops.h69 (by decide) hord (fun w => run_mv hf.ops.h69 _) (fun a htm hord => ?_)
   refine htm.draw (v := .int .i64 ((i + m : Nat) : Int)) rfl hf.ops.h70 (by decide) hord (fun w => run_iadd hf.ops.h70 rfl rfl (by omega) _) (fun a htm hord => ?_)
   refine htm.draw (v := .slice (some ⟨g, (i + m) * size, none⟩) (n + m - (i + m)) (c - (i + m))) rfl hf.ops.h71 (by decide) hord (fun w => run_fromA hf.ops.h71 hf.und hie hse rfl rfl (by omega) (by omega) _) (fun a htm hord => ?_)
   refine htm.draw (v := .slice (some ⟨g, 0, none⟩) (n + m) c) rfl hf.ops.h72 (by decide) hord (fun w => run_mv hf.ops.h72 _) (fun a htm hord => ?_)
   refine htm.draw (v := .int .i64 ((i : Nat) : Int)) rfl hf.ops.h73 (by decide) hord (fun w => run_mv hf.ops.h73 _) (fun a htm hord => ?_)
   refine htm.draw (v := .slice (some ⟨g, i * size, none⟩) (n + m - i) (c - i)) rfl hf.ops.h74 (by decide) hord (fun w => run_fromA hf.ops.h74 hf.und hie hse rfl rfl (by omega) (by omega) _) (fun a htm hord => ?_)
   refine htm.last (v := v1) rfl hf.ops.h75 (by decide) hord (run_cpy2 hf.ops.h75 rfl rfl (hB _)) (fun a htm => ?_)
   refine wp_seq (wp_region ?_)
   rw [show List.range (#[o 76, o 77, o 78, o 79, o 80] : Array Oper).size = [0, 1, 2, 3, 4] from rfl]
   refine htm.step (v := .slice (some ⟨g, 0, none⟩) (n + m) c) rfl hf.ops.h76 (by decide) (run_mv hf.ops.h76 _) (fun a htm => ?_)
   refine htm.step (v := .int .i64 ((i : Nat) : Int)) rfl hf.ops.h77 (by decide) (run_mv hf.ops.h77 _) (fun a htm => ?_)
   refine htm.step (v := .slice (some ⟨g, i * size, none⟩) (n + m - i) (c - i)) rfl hf.ops.h78 (by decide) (run_fromA hf.ops.h78 hf.und hie hse rfl rfl (by omega) (by omega) _) (fun a htm => ?_)
   refine htm.step (v := .slice (some ⟨g2, 0, none⟩) m c2) rfl hf.ops.h79 (by decide) (run_mv hf.ops.h79 _) (fun a htm => ?_)
   refine htm.step (v := v2) rfl hf.ops.h80 (by decide) (run_cpy2 hf.ops.h80 rfl rfl (hC _)) (fun a htm => ?_)
   refine wp_seq (wp_region ?_)
   rw [show List.range (#[o 81, o 82] : Array Oper).size = [0, 1] from rfl]
   refine htm.step (v := .slice (some ⟨g, 0, none⟩) (n + m) c) rfl hf.ops.h81 (by decide) (run_mv hf.ops.h81 _) (fun a htm => ?_)
   refine htm.step (v := .slice (some ⟨g, 0, none⟩) (n + m) c) rfl hf.ops.h82 (by decide) (run_asg hf.ops.h82 _) (fun a htm => ?_)
   refine wp_ret ?_
   show bodyPost P fn (fun x wq => x = .returned (.slice (some ⟨g, 0, none⟩) (n + m) c) ∧ wq = w2) .ret a w2
   refine ins_ret hf.res htm (v := .slice (some ⟨g, 0, none⟩) (n + m) c) rfl ?_
   exact ⟨rfl, rfl⟩
  exact key _ (tm3 _ _ _ 92)
end
end Dn
/-
  What slices.Insert does to a slice of its own. Conditions: none.
-/
set_option linter.unusedSimpArgs false
set_option linter.unusedVariables false
namespace Dn
open Go
section
variable {key : Nat → Nat} {φ : Ph} {size : Nat}
theorem ElemsRep.take {xs : List MV} : ∀ {cs : List Value} (i : Nat), ElemsRep key φ size cs xs → ElemsRep key φ size (cs.take (i * size)) (xs.take i) := by
  induction xs with
  | nil => intro cs i h; cases h; simp [ElemsRep]
  | cons x xs ih =>
    intro cs i h
    obtain ⟨v, q, rfl, h1, h2, h3⟩ := h
    cases i with
    | zero => simp [ElemsRep]
    | succ i =>
      refine ⟨v, q.take (i * size), ?_, h1, h2, ih i h3⟩
      rw [Nat.add_mul, Nat.one_mul, Nat.add_comm, List.take_append, h1]
      congr 1
      · exact List.take_of_length_le (by omega)
      · congr 1; omega
theorem ElemsRep.drop {xs : List MV} : ∀ {cs : List Value} (i : Nat), ElemsRep key φ size cs xs → ElemsRep key φ size (cs.drop (i * size)) (xs.drop i) := by
  induction xs with
  | nil => intro cs i h; cases h; simp [ElemsRep]
  | cons x xs ih =>
    intro cs i h
    cases i with
    | zero => simpa using h
    | succ i =>
      obtain ⟨v, q, rfl, h1, h2, h3⟩ := h
      have := ih i h3
      rw [Nat.add_mul, Nat.one_mul, Nat.add_comm, List.drop_append, h1, List.drop_of_length_le (by omega), List.nil_append, Nat.add_sub_cancel_left]
      simpa using this
end
section
variable {P : Program} {c : Ctx} {f : Nat} {W W' : World} {φ : Ph} {Z : Nat → Prop} {v0 v' : Value}
theorem fin_own {ty : Nat} {E : TI} {n : Nat} {cells : List Value} {rs : List MV} (hz : ∀ b, W.heap.size ≤ b → Z b) (himm : Imm φ W) (hE : c.ti ty = some E) (hEc : E.comps = []) (hfty : c.fty (c.key f) = ty)
    (hold : ∀ b, b < W.heap.size → some b ≠ v0.ownBlock → W'.heap[b]? = W.heap[b]?) (hsz : W.heap.size ≤ W'.heap.size) (hrest : Rest W W')
    (hv0 : ∀ b, v0.ownBlock = some b → Z b ∧ ∀ off, φ b off = none) (hown : W'.ownsRow 0 ty E.size v' n cells) (hn : rs.length = n) (hels : ElemsRep c.key φ E.size cells rs)
    (hplace : ∀ b, v'.ownBlock = some b → v0.ownBlock = some b ∨ W.heap.size ≤ b) : ∃ φ', Trans Z φ W φ' W' ∧ Imm φ' W' ∧ ResRep c Z φ' W' (c.key f) v' (.fresh rs) := by
  refine ⟨φ, ⟨.refl _, ?_, fun _ _ _ => rfl, hsz, hrest⟩, ?_, ?_⟩
  · intro b hb hlt
    exact hold b hlt (fun he => hb (hv0 b he.symm).1)
  · intro b off u hbo
    have h1 := himm b off u hbo
    have hlt := World.block_lt_of_cell? W _ h1
    rw [World.cell?_of_block (hold b hlt (fun he => by rw [(hv0 b he.symm).2 off] at hbo; cases hbo))]
    exact h1
  · show FamOK c (Zone.plain Z) (env0 c.key φ) W' v' ⟨c.fty (c.key f), false, rs⟩
    rw [hfty]
    refine ⟨E, cells, hE, hEc, by rw [hn]; exact hown, hels, fun blk hb => ?_⟩
    rcases hplace blk hb with h | h
    · exact ⟨(hv0 blk h).1, fun off u hu => (by have hu : φ blk off = some u := hu; rw [(hv0 blk h).2 off] at hu; cases hu), fun hc => hc.elim⟩
    · refine ⟨hz blk h, fun off u hu => ?_, fun hc => hc.elim⟩
      have := World.block_lt_of_cell? W _ (himm _ _ _ hu)
      exact absurd this (by show ¬ blk < W.heap.size; omega)

/-- the row that is left -/
theorem row_mid {A cur : List Value} {cells news : List Value} {p q r : Nat} (hA : A.length = cur.length) (hp : p + news.length = q) (hc : cells.length = r) (hpr : p ≤ r) (hfit : r + news.length ≤ cur.length)
    (h1 : A.take p = cells.take p) (h2 : (A.drop q).take (r - p) = cells.drop p) : (A.take p ++ news ++ A.drop q).take (r + news.length) = cells.take p ++ news ++ cells.drop p := by
  have hl : (A.take p).length = p := by rw [List.length_take]; omega
  rw [List.take_append, List.length_append, hl, hp, List.take_of_length_le (by rw [List.length_append, hl]; omega), h1]
  congr 1
  rw [show r + news.length - q = r - p by omega]
  exact h2

theorem insert_ok {t ti tb el fo : Nat} {fn : Func} {r : Nat → Nat} {o : Nat → Oper} {tail : Code} {I E : TI} {xs ys : List MV} {i : Nat} (hf : InsFn P f t ti tb el fo fn r o tail) (hT : TIok P c.ti) (hI : c.tv t = some I) (hL : I.isL = true) (hE : c.tv I.elem = some E) (hb1 : 1 ≤ E.bytes)
    (hel : el = I.elem) (hti : P.underlying ti = some (.int .i64)) (hfty : c.fty (c.key f) = I.elem) (hg : c.gives (c.key f) = true)
    (hov : ∀ args w, (callFunc fo args).run P w = ((Extern.SlicesOverlaps.overlaps #[t, t] #[tb] args).run P w).andThen fun v w' => .ok (.value v) w')
    (hi : i ≤ xs.length) (hys : ys ≠ []) (hlim : (xs.length + ys.length) * E.bytes ≤ 2 ^ 46) : Sound1 P c f [.fresh xs, .i .i64 i, .fresh ys] (.fresh (xs.take i ++ ys ++ xs.drop i)) := by
  subst hel
  obtain ⟨hIt, hIc⟩ := tv_some hI
  obtain ⟨hEi, hEc⟩ := tv_some hE
  obtain ⟨hu, E2, hE2, _, hpos⟩ := TI.isL_of (hT t I hIt) hL
  rw [hEi] at hE2
  cases hE2
  obtain ⟨ie, z, hie, hse, hby, hz0, hzs⟩ := zero_size (hT _ E hEi) hEc
  intro φ W Z vs hz hargs himm
  simp only [ArgsIn, hg, if_true] at hargs
  obtain ⟨v0, v1, v2, xs', m1, ys', rfl, hms, F0, A1, F2, hne⟩ := hargs.resolve_right (by
    rintro ⟨_, _, _, _, _, m2, _, h1, h2, _⟩
    simp only [List.cons.injEq, and_true] at h1
    rw [← h1.2.2] at h2; simp [MV.one] at h2)
  simp only [List.cons.injEq, MV.fresh.injEq, and_true] at hms
  obtain ⟨rfl, rfl, rfl⟩ := hms
  have hv1 : v1 = .int .i64 (i : Int) := by
    obtain ⟨_, h⟩ := A1
    generalize hvs : [v1] = l at h
    cases h; simpa using hvs
  subst hv1
  rw [hfty] at F0 F2
  obtain ⟨I0, cells, hI0, _, hown0, hels0, hblk0⟩ := F0
  have hI0 : c.ti I.elem = some I0 := hI0
  rw [hEi] at hI0
  cases hI0
  obtain ⟨I2, news, hI2, _, hown2, hels2, hblk2⟩ := F2
  have hI2 : c.ti I.elem = some I2 := hI2
  rw [hEi] at hI2
  cases hI2
  have hown0 : W.ownsRow 0 I.elem E.size v0 xs.length cells := hown0
  have hown2 : W.ownsRow 0 I.elem E.size v2 ys.length news := hown2
  have hels0 : ElemsRep c.key φ E.size cells xs := hels0
  have hels2 : ElemsRep c.key φ E.size news ys := hels2
  have hv0 : ∀ b, v0.ownBlock = some b → Z b ∧ ∀ off, φ b off = none := by
    intro b hb
    refine ⟨(hblk0 b hb).1, fun off => ?_⟩
    cases h : φ b off with
    | none => rfl
    | some u => have := ((hblk0 b hb).2.1 off u h).1; cases this
  have hm : 0 < ys.length := List.length_pos_iff.2 hys
  have hnl : news.length = ys.length * E.size := hels2.length
  have hcl : cells.length = xs.length * E.size := hels0.length
  have hlen : xs.length + ys.length ≤ 2 ^ 46 := Nat.le_trans (Nat.le_mul_of_pos_right _ hb1) hlim
  obtain ⟨g2, c2, cur2, rfl, hg2, hmc2, hc2, hs2, htk2⟩ : ∃ g2 c2 cur2, v2 = .slice (some ⟨g2, 0, none⟩) ys.length c2 ∧ W.heap[g2]? = some (.cells cur2 I.elem (0, 0)) ∧ ys.length ≤ c2 ∧ c2 ≤ maxLen ∧ cur2.size = c2 * E.size ∧ cur2.toList.take (ys.length * E.size) = news := by
    rcases hown2.2 with ⟨_, h0⟩ | ⟨g2, c2, cur2, h1, _, h3, h4, h5, h6, h7⟩
    · omega
    · exact ⟨g2, c2, cur2, h1, h3, h4, h5, h6, h7⟩
  have hg2l := lt_of_heap hg2
  have hsrc2 : ∀ {w : World}, (w.heap[g2]? = W.heap[g2]?) → ∀ (j : Nat) (u : Value), news[j]? = some u → w.cell? ((⟨g2, 0, none⟩ : Addr).add j) = some u := by
    intro w hw j u hj
    have := hown2.cells (g := g2) rfl j u hj
    rw [Addr.add_mid] at this ⊢
    rw [World.cell?_of_block hw]; exact this
  have hcells : ∀ g, v0.ownBlock = some g → ∀ {w : World}, (w.heap[g]? = W.heap[g]?) → ∀ (j : Nat) (u : Value), cells[j]? = some u → w.cell? ((⟨g, 0, none⟩ : Addr).add j) = some u := by
    intro g hg w hw j u hj
    have := hown0.cells (g := g) hg j u hj
    rw [Addr.add_mid] at this ⊢
    rw [World.cell?_of_block hw]; exact this
  have hrun : (callFunc f [v0, .int .i64 (i : Int), .slice (some ⟨g2, 0, none⟩) ys.length c2].toArray).run P W = .ok (.enter f #[v0, .int .i64 (i : Int), .slice (some ⟨g2, 0, none⟩) ys.length c2]) W := by
    have hn2 : ¬ fn.name = "runtime.NumGoroutine" := by simpa using hf.name
    simp [callFunc, hf.pos, hn2, hf.body]
  unfold CallOK
  rw [hrun]
  have hrl : (xs.take i ++ ys ++ xs.drop i).length = xs.length + ys.length := by simp; omega
  have hrels : ElemsRep c.key φ E.size (cells.take (i * E.size) ++ news ++ cells.drop (i * E.size)) (xs.take i ++ ys ++ xs.drop i) := ((hels0.take i).append hels2).append (hels0.drop i)
  by_cases hin : i = xs.length
  · -- at the end
    have hsrc : Src (env0 c.key φ) W E.size (.slice (some ⟨g2, 0, none⟩) ys.length c2) ys news := ⟨hels2, _, _, rfl, by simp, fun x hx j u hj => by cases hx; exact hsrc2 rfl j u hj⟩
    have hres : cells.take (i * E.size) ++ news ++ cells.drop (i * E.size) = cells ++ news := by
      rw [hin, ← hcl, List.take_length, List.drop_length, List.append_nil]
    rw [hres] at hrels
    have fin : ∀ v' W', Appd W W' I.elem E.size v0 v' xs.length ys.length cells news → ∃ φ', Trans Z φ W φ' W' ∧ Imm φ' W' ∧ ResRep c Z φ' W' (c.key f) v' (.fresh (xs.take i ++ ys ++ xs.drop i)) := by
      intro v' W' hap
      refine fin_own (v0 := v0) hz himm hEi hEc hfty hap.old hap.size hap.rest hv0 hap.own hrl hrels ?_
      intro b hb
      rcases hap.place with h | h
      · left; rw [← h]; exact hb
      · right; rw [h] at hb; cases hb; exact Nat.le_refl _
    obtain ⟨v', W', hr, hap⟩ := append_run (P := P) (c := c) (ty := 0) (e := env0 c.key φ) hu hEi hEc hpos hT hb1 hown0 hsrc hlim
    have hr' : ∀ ty, (Builtin.append_ #[t, t] ty #[v0, .slice (some ⟨g2, 0, none⟩) ys.length c2]).run P W = .ok v' W' := fun ty => hr
    have hv0c : ∃ ad c0, v0 = .slice ad xs.length c0 ∧ xs.length ≤ c0 ∧ c0 ≤ maxLen := by
      rcases hown0.2 with ⟨h1, h0⟩ | ⟨g, c0, cur, h1, _, h3, h4, h5, _⟩
      · exact ⟨none, 0, by rw [h1, h0], by omega, by omega⟩
      · exact ⟨_, c0, h1, h4, h5⟩
    obtain ⟨ad, c0, rfl, hnc, hcm⟩ := hv0c
    refine (ins_end hf hie hse hm hnc (by unfold maxLen at hcm; omega) (by omega) hin hr').mono ?_
    rintro x w'' ⟨rfl, rfl⟩
    exact ⟨_, rfl, fin _ _ hap⟩
  · have hin : i < xs.length := by omega
    obtain ⟨g, c0, cur, rfl, hgc, hnc, hcm, hcs, htk⟩ : ∃ g c0 cur, v0 = .slice (some ⟨g, 0, none⟩) xs.length c0 ∧ W.heap[g]? = some (.cells cur I.elem (0, 0)) ∧ xs.length ≤ c0 ∧ c0 ≤ maxLen ∧ cur.size = c0 * E.size ∧ cur.toList.take (xs.length * E.size) = cells := by
      rcases hown0.2 with ⟨_, h0⟩ | ⟨g, c0, cur, h1, _, h3, h4, h5, h6, h7⟩
      · omega
      · exact ⟨g, c0, cur, h1, h3, h4, h5, h6, h7⟩
    have hgl := lt_of_heap hgc
    have hgg : g ≠ g2 := fun h => hne g rfl (by rw [h]; rfl)
    have hi1 : i * E.size ≤ xs.length * E.size := Nat.mul_le_mul_right _ hi
    have him : (i + ys.length) * E.size = i * E.size + news.length := by rw [Nat.add_mul, hnl]
    have hnm : (xs.length + ys.length) * E.size = xs.length * E.size + news.length := by rw [Nat.add_mul, hnl]
    have hdl : (cells.drop (i * E.size)).length = (xs.length - i) * E.size := by rw [List.length_drop, hcl, Nat.sub_mul]
    have hdl2 : (xs.length - i) * E.size = xs.length * E.size - i * E.size := Nat.sub_mul _ _ _
    have hsrcD : ∀ {w : World}, (w.heap[g]? = W.heap[g]?) → ∀ (j : Nat) (u : Value), (cells.drop (i * E.size))[j]? = some u → w.cell? ((⟨g, i * E.size, none⟩ : Addr).add j) = some u := by
      intro w hw j u hj
      rw [List.getElem?_drop] at hj
      have := hcells g rfl hw _ u hj
      rw [Addr.add_mid] at this ⊢
      rwa [Nat.zero_add] at this
    have ho1 : ∀ u ∈ cells.drop (i * E.size), u.oneCell' = true := fun u hu => hels0.cells1 u (List.mem_of_mem_drop hu)
    have hdrew : Rest W { W with drawn := W.drawn + 1 } := ⟨rfl, rfl, rfl, fun _ => rfl⟩
    by_cases hroom : c0 < xs.length + ys.length
    · have hk : i + (xs.length + ys.length - i) = xs.length + ys.length := by omega
      obtain ⟨G, hG⟩ : ∃ G, G = grownCap W (xs.length + ys.length) c0 I.elem := ⟨_, rfl⟩
      have hGn : xs.length + ys.length ≤ G := by rw [hG]; exact grownCap_ge W _ _ _
      have hGm : G ≤ maxLen := by rw [hG]; exact grownCap_le_maxLen W _ _ _ (by unfold maxLen; omega)
      obtain ⟨ROW, hROW⟩ : ∃ ROW : Array Value, ROW = (cells.take (i * E.size)).toArray ++ Builtin.zeroCells z.cells (xs.length + ys.length - i) ++ Builtin.zeroCells z.cells (G - (xs.length + ys.length)) := ⟨_, rfl⟩
      have hRl : ROW.size = G * E.size := by
        rw [hROW]
        simp only [Array.size_append, List.size_toArray, List.length_take, Builtin.zeroCells, Array.size_map, Array.size_range, hzs]
        rw [Nat.min_eq_left (by rw [hcl]; exact hi1), ← Nat.add_mul, ← Nat.add_mul]
        congr 1; omega
      have hRt : ROW.toList.take (i * E.size) = cells.take (i * E.size) := by
        rw [hROW]
        simp only [Array.toList_append, List.append_assoc]
        have hl : (cells.take (i * E.size)).length = i * E.size := by rw [List.length_take, hcl]; exact Nat.min_eq_left hi1
        rw [List.take_append_of_le_length (by omega), List.take_of_length_le (by omega)]
      have hA : ∀ ty, (Builtin.append_ #[t, ti] ty #[.slice (some ⟨g, 0, none⟩) i c0, .int .i64 ((xs.length + ys.length - i : Nat) : Int)]).run P W = .ok (.slice (some ⟨W.heap.size, 0, none⟩) (xs.length + ys.length) G) (W.drew.alloc (.cells ROW I.elem)) := fun ty => by
        have hold : (Builtin.firstCells ie.size i (.slice (some ⟨g, 0, none⟩) i c0)).run P W.drew = .ok (cells.take (i * E.size)).toArray W.drew := by
          refine run_firstCells_some W.drew ie.size i ⟨g, 0, none⟩ i c0 _ (by rw [hse, List.length_take, hcl]; exact Nat.min_eq_left hi1) (fun j v hj => ?_)
          rw [List.getElem?_take] at hj
          split at hj
          · exact hcells g rfl rfl j v hj
          · cases hj
        have h := Lib.run_append_grow_zeros W t ti ty I.elem ie z .i64 .i64 hu hti hie hz0 (some ⟨g, 0, none⟩) i c0 (cells.take (i * E.size)) hold (xs.length + ys.length - i) (by omega) (by rw [hse]; exact hpos) (by omega) (by omega)
          (by rw [hby]; exact Nat.le_trans (Nat.mul_le_mul_right _ (by omega : xs.length + ys.length - i ≤ xs.length + ys.length)) (Nat.le_trans hlim (by omega))) (by rw [hby, hk]; exact growslice_fits hroom (Nat.le_trans hlim (by omega)))
        rw [hk, ← hG, ← hROW] at h
        exact h
      have hg9 : (W.drew.alloc (.cells ROW I.elem)).heap[W.heap.size]? = some (.cells ROW I.elem (0, 0)) := heap_alloc_new W.drew _
      have hal : ∀ b, b < W.heap.size → (W.drew.alloc (.cells ROW I.elem)).heap[b]? = W.heap[b]? := fun b hb => heap_alloc_old W.drew _ b hb
      have hnG : (xs.length + ys.length) * E.size ≤ ROW.size := by rw [hRl]; exact Nat.mul_le_mul_right _ hGn
      obtain ⟨RA, hRA⟩ : ∃ RA : List Value, RA = ROW.toList.take (i * E.size) ++ news ++ ROW.toList.drop (i * E.size + news.length) := ⟨_, rfl⟩
      have hRAl : RA.length = ROW.size := by
        rw [hRA]
        simp only [List.length_append, List.length_take, List.length_drop, Array.length_toList]
        omega
      have hB : ∀ ty, (Builtin.copy_ #[t, t] ty #[.slice (some ⟨W.heap.size, i * E.size, none⟩) (xs.length + ys.length - i) (G - i), .slice (some ⟨g2, 0, none⟩) ys.length c2]).run P (W.drew.alloc (.cells ROW I.elem)) =
          .ok (goInt ((ys.length : Nat) : Int)) (World.setRow (W.drew.alloc (.cells ROW I.elem)) W.heap.size RA.toArray) := fun ty => by
        rw [hRA]
        exact run_copy_wide (size := E.size) hu hie hse hg9 (by simp only [Nat.min_def]; split <;> omega) hnl (hsrc2 (hal g2 hg2l)) (by omega) hels2.cells1
      have hg9B := setRow_heap (W.drew.alloc (.cells ROW I.elem)) W.heap.size ROW RA.toArray I.elem (0, 0) hg9
      obtain ⟨W2, hW2⟩ : ∃ W2, W2 = World.setRow (W.drew.alloc (.cells ROW I.elem)) W.heap.size RA.toArray := ⟨_, rfl⟩
      have hoth : ∀ b, b < W.heap.size → W2.heap[b]? = W.heap[b]? := fun b hb => by rw [hW2, setRow_other _ _ _ _ (by omega)]; exact hal b hb
      have hrest2 : Rest W W2 := by
        rw [hW2]
        exact (show Rest W W.drew from ⟨rfl, rfl, rfl, fun _ => rfl⟩).trans ((Rest.alloc W.drew ROW I.elem).trans (Rest.setRow _ _ _))
      have hsz2 : W2.heap.size = W.heap.size + 1 := by rw [hW2, setRow_size]; exact Array.size_push _
      rw [← hW2] at hB hg9B
      have hC := fun ty => run_copy_wide (P := P) (dT := t) (sT := t) (ty := ty) (size := E.size) (dLen := xs.length + ys.length - (i + ys.length)) (dCap := G - (i + ys.length)) (sLen := xs.length - i) (sCap := c0 - i) (k := xs.length - i) (o := (i + ys.length) * E.size) (a := ⟨g, i * E.size, none⟩) (w := { W2 with drawn := W2.drawn + 1 }) hu hie hse hg9B (by simp only [Nat.min_def]; split <;> omega) hdl
        (hsrcD (hoth g hgl)) (by simp only [List.size_toArray]; rw [hRAl, him, hdl]; omega) ho1
      refine (ins_grow hf hie hse hm hnc (by unfold maxLen at hcm; omega) (by omega) hin hroom hGn hA hB hC).mono ?_
      rintro x w'' ⟨rfl, rfl⟩
      refine ⟨_, rfl, ?_⟩
      refine fin_own (v0 := .slice (some ⟨g, 0, none⟩) xs.length c0) (n := xs.length + ys.length) (cells := cells.take (i * E.size) ++ news ++ cells.drop (i * E.size)) hz himm hEi hEc hfty ?_ ?_ ?_ hv0 ?_ hrl hrels (fun b hb => .inr (by cases hb; exact Nat.le_refl _))
      · intro b hb hne
        rw [setRow_other _ _ _ _ (by omega)]
        exact hoth b hb
      · rw [setRow_size]; show W.heap.size ≤ W2.heap.size; omega
      · exact hrest2.trans ((show Rest W2 { W2 with drawn := W2.drawn + 1 } from ⟨rfl, rfl, rfl, fun _ => rfl⟩).trans (Rest.setRow _ _ _))
      · refine ⟨by rw [hrels.length, hrl], .inr ⟨W.heap.size, G, _, rfl, Nat.zero_le _, setRow_heap { W2 with drawn := W2.drawn + 1 } W.heap.size RA.toArray _ I.elem (0, 0) hg9B, hGn, hGm, ?_, ?_⟩⟩
        · simp only [List.size_toArray, List.length_append, List.length_take, List.length_drop]
          rw [hRAl, ← hRl]
          omega
        · have hRAt : RA.take ((i + ys.length) * E.size) = cells.take (i * E.size) ++ news := by
            have hl : (ROW.toList.take (i * E.size) ++ news).length = (i + ys.length) * E.size := by rw [List.length_append, List.length_take, Array.length_toList, him]; omega
            rw [hRA, List.take_append_of_le_length (by omega), List.take_of_length_le (by omega), hRt]
          rw [hRAt]
          have hl2 : (cells.take (i * E.size) ++ news ++ cells.drop (i * E.size)).length = (xs.length + ys.length) * E.size := by rw [hrels.length, hrl]
          rw [← hl2]
          exact List.take_left
    · have hroom : xs.length + ys.length ≤ c0 := by omega
      have hcz : cur.toList.length = cur.size := Array.length_toList
      have hfit : (xs.length + ys.length) * E.size ≤ cur.size := by rw [hcs]; exact Nat.mul_le_mul_right _ hroom
      have hO : (callFunc fo #[.slice (some ⟨g2, 0, none⟩) ys.length c2, .slice (some ⟨g, (i + ys.length) * E.size, none⟩) (xs.length + ys.length - (i + ys.length)) (c0 - (i + ys.length))]).run P W = .ok (.value (.bool false)) W := by
        rw [hov, Lib.run_overlaps_apart W t tb I.elem hu E.size (fun w => by simp [Go.sizeOf, typeInfo, hie, hse]) ⟨g2, 0, none⟩ ⟨g, (i + ys.length) * E.size, none⟩ _ _ _ _ (Ne.symm hgg) I.elem I.elem cur2.size cur.size (by simp [World.shape?, hg2]) (by simp [World.shape?, hgc])
          (by rw [hcs]; exact Nat.ne_of_gt (Nat.mul_pos (by omega) hpos)) (by simp [World.frozen?, hg2]) (by simp [World.frozen?, hg2])]
        rfl
      let R1 : List Value := cur.toList.take ((i + ys.length) * E.size) ++ cells.drop (i * E.size) ++ cur.toList.drop ((i + ys.length) * E.size + (cells.drop (i * E.size)).length)
      have hR1 : R1.length = cur.size := by
        simp only [R1, List.length_append, List.length_take, List.length_drop, Array.length_toList]
        rw [hdl] at *
        omega
      have hB : ∀ ty, (Builtin.copy_ #[t, t] ty #[.slice (some ⟨g, (i + ys.length) * E.size, none⟩) (xs.length + ys.length - (i + ys.length)) (c0 - (i + ys.length)), .slice (some ⟨g, i * E.size, none⟩) (xs.length + ys.length - i) (c0 - i)]).run P { W with drawn := W.drawn + 1 } =
          .ok (goInt ((xs.length - i : Nat) : Int)) (World.setRow { W with drawn := W.drawn + 1 } g R1.toArray) := fun ty =>
        run_copy_wide (size := E.size) hu hie hse (w := { W with drawn := W.drawn + 1 }) hgc (by simp only [Nat.min_def]; split <;> omega) hdl (hsrcD rfl) (by rw [him, hdl]; omega) ho1
      have hgc1 : (World.setRow { W with drawn := W.drawn + 1 } g R1.toArray).heap[g]? = some (.cells R1.toArray I.elem (0, 0)) := setRow_heap { W with drawn := W.drawn + 1 } g cur R1.toArray I.elem (0, 0) hgc
      have hoth : ∀ b, b ≠ g → (World.setRow { W with drawn := W.drawn + 1 } g R1.toArray).heap[b]? = W.heap[b]? := fun b hb => setRow_other { W with drawn := W.drawn + 1 } g b R1.toArray hb
      have hC := fun ty => run_copy_wide (P := P) (dT := t) (sT := t) (ty := ty) (size := E.size) (dLen := xs.length + ys.length - i) (dCap := c0 - i) (sLen := ys.length) (sCap := c2) (k := ys.length) (o := i * E.size) (a := ⟨g2, 0, none⟩) hu hie hse hgc1 (by simp only [Nat.min_def]; split <;> omega) hnl
        (hsrc2 (hoth g2 (Ne.symm hgg))) (by simp only [List.size_toArray]; rw [hR1]; omega) hels2.cells1
      refine (ins_room hf hie hse hm hnc (by unfold maxLen at hcm; omega) (by omega) hin hroom hO hB hC).mono ?_
      rintro x w'' ⟨rfl, rfl⟩
      refine ⟨_, rfl, ?_⟩
      rw [setRow_setRow]
      have hrest : Rest W (World.setRow { W with drawn := W.drawn + 1 } g (R1.toArray.toList.take (i * E.size) ++ news ++ R1.toArray.toList.drop (i * E.size + news.length)).toArray) := hdrew.trans (Rest.setRow _ _ _)
      refine fin_own (v0 := .slice (some ⟨g, 0, none⟩) xs.length c0) (n := xs.length + ys.length) (cells := cells.take (i * E.size) ++ news ++ cells.drop (i * E.size)) hz himm hEi hEc hfty ?_ (by simp) hrest hv0 ?_ hrl hrels (fun b hb => .inl hb)
      · intro b hb hne
        refine setRow_other { W with drawn := W.drawn + 1 } g b _ (fun h => hne ?_)
        rw [h]; rfl
      · refine ⟨by rw [hrels.length, hrl], .inr ⟨g, c0, _, rfl, Nat.zero_le _, setRow_heap { W with drawn := W.drawn + 1 } g cur _ I.elem (0, 0) hgc, hroom, hcm, ?_, ?_⟩⟩
        · simp only [List.size_toArray, List.length_append, List.length_take, List.length_drop]
          rw [hR1, ← hcs]
          omega
        · rw [hnm]
          refine row_mid (cur := cur.toList) (r := xs.length * E.size) (by simpa using hR1) rfl hcl hi1 (by simp only [Array.length_toList]; omega) ?_ ?_
          · show R1.take (i * E.size) = _
            rw [← htk, List.take_take, Nat.min_eq_left hi1]
            simp only [R1]
            rw [List.append_assoc, List.take_append_of_le_length (by rw [List.length_take, hcz]; omega), List.take_take, Nat.min_eq_left (by omega)]
          · show (R1.drop (i * E.size + news.length)).take _ = _
            simp only [R1]
            have hl : (cur.toList.take ((i + ys.length) * E.size)).length = i * E.size + news.length := by rw [List.length_take, hcz]; omega
            rw [List.append_assoc, ← hl, List.drop_left, List.take_append_of_le_length (by omega), List.take_of_length_le (by omega)]
end
end Dn
