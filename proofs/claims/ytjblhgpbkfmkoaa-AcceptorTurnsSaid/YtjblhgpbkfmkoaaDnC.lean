import Derived.Test.YtjblhgpbkfmkoaaDnB
import Derived.LoopN
import Derived.Laws.Sem
import Derived.ProofKit
import Derived.OpenShut
/-
  Every operation. Conditions: none.
-/
set_option linter.unusedSimpArgs false
set_option linter.unusedVariables false
namespace Dn
open Go

section
variable {P : Program} {c : Ctx} {Z Z' : Zone} {e e' : Env} {st : St} {a : Act} {w w' : World} {R : Type} {K : St → Option R} {r : R} {Q : Exit → Act → World → Prop} {o : Oper}

/-- what is asked of a program and its tables -/
structure Good (P : Program) (c : Ctx) : Prop where
  ti : TIok P c.ti
  eq : EqOK P c.ti
  fn : Sound P c
  fk : ∀ t k, c.fk t = some k → P.underlying t = some (.float k)
  mt : MapTys P c

/-- what an operation that looks at memory bears -/
def lkMS (c : Ctx) (o : Oper) : Option MS := match lkTy o with | some t => msOf c t | none => none
def GrowFor (c : Ctx) (o : Oper) (w w' : World) : Prop := match lkMS c o with | some s => GrowM s w w' | none => Grow w w'
theorem Grow.trans' {w w' w'' : World} (h : Grow w w') (h' : Grow w' w'') : Grow w w'' :=
  ⟨Nat.le_trans h.size h'.size, fun b hb => (h'.old b (Nat.lt_of_lt_of_le hb h.size)).trans (h.old b hb), h.rest.trans h'.rest⟩
theorem Grow.for {w w' : World} (h : Grow w w') : GrowFor c o w w' := by
  unfold GrowFor
  split
  · exact h.m _
  · exact h
theorem GrowFor.trans {w w' w'' : World} (h : GrowFor c o w w') (h' : GrowFor c o w' w'') : GrowFor c o w w'' := by
  unfold GrowFor at *
  split at h
  · rename_i s hs; simp only [hs] at h' ⊢; exact GrowM.trans h h'
  · rename_i hs; simp only [hs] at h' ⊢; exact Grow.trans' h h'

/-- what an operation comes to, by its kind -/
inductive OpDone (P : Program) (c : Ctx) (Z : Zone) {R : Type} (K : St → Option R) (r : R) (e : Env) (a : Act) (w : World) (o : Oper) (Q : Exit → Act → World → Prop) : Prop
  | rd : (isLr c o = false ∧ mvAs c o = false) → Rd P c Z K r e a w o (fun _ => True) → OpDone P c Z K r e a w o Q
  | ld : (isLr c o = true ∧ mvAs c o = false) → Imm e.φ w → Rd P c Z K r e a w o (fun w' => (still c o = false → GrowFor c o w w') ∧ Imm e.φ w') → OpDone P c Z K r e a w o Q
  | gr : (isRd o = false ∨ mvAs c o = true) → o.wp P a w (fun a' w' => Grow w w' ∧ Out c Z K r e.φ w a' w') Q → OpDone P c Z K r e a w o Q
  | cl (f : Nat) : (isRd o = false ∧ isGr c o = !c.gives (c.key f)) → o.wp P a w (fun a' w' => (c.gives (c.key f) = false → Grow w w') ∧ Out c Z K r e.φ w a' w') Q → OpDone P c Z K r e a w o Q
  | an : (isRd o = false ∧ isGr c o = false) → o.wp P a w (Out c Z K r e.φ w) Q → OpDone P c Z K r e a w o Q
  | me (t : Nat) (s : MS) : meTy o = some t → msOf c t = some s → (isRd o = false ∧ isGr c o = false) → o.wp P a w (fun a' w' => GrowM s w w' ∧ Out c Z K r e.φ w a' w') Q → OpDone P c Z K r e a w o Q
theorem op_all (hG : Good P c) (h : Sim c Z e st a w) (hK : opK c o st (fun s st => setDst c st o.dst s K) = some r) : OpDone P c Z K r e a w o Q := by
  have hT := hG.ti
  unfold opK at hK
  split at hK
  · rename_i ho; exact .rd ⟨by simp [isLr, isLd, *], by simp [mvAs, *]⟩ (op_move (.inl ho) h hK)
  · rename_i x ho
    cases hm : mvAs c o with
    | true => exact .gr (.inr hm) (op_mvAs ho h hK)
    | false =>
      refine .rd ⟨by simp [isLr, isLd, *], hm⟩ (op_move (.inr ho) h ?_)
      unfold assignK at hK
      unfold mvAs at hm
      rw [ho] at hm
      split at hK
      · rename_i t q hq; rw [hq] at hm; simp at hm
      · exact hK
  · rename_i t ho
    cases hs : msOf c t with
    | none => simp [hs] at hK
    | some s => simp only [hs] at hK; exact .an (by simp [isRd, isGr, *]) (op_makeMap ho (msOf_it hs) h hK)
  · rename_i t m k ho
    unfold lookK at hK
    cases hs : msOf c t with
    | none => simp [hs] at hK
    | some s =>
      simp only [hs] at hK
      obtain ⟨v, h1, h2⟩ := op_lookup ho (hG.mt t s hs) h hK
      refine .ld ⟨by simp [isLr, isLd, ho], by simp [mvAs, ho]⟩ h.imm ⟨v, fun w' hw => h1 w' ?_, h2⟩
      have := hw.1 (by simp [still, ho])
      simpa [GrowFor, lkMS, lkTy, ho, hs] using this
  · rename_i t m k v ho
    unfold mputK at hK
    cases hs : msOf c t with
    | none => simp [hs] at hK
    | some s => simp only [hs] at hK; exact .an (by simp [isRd, isGr, *]) (op_mapUpdate ho (hG.mt t s hs) h hK)
  · rename_i t m k ho
    unfold mentK at hK
    cases hs : msOf c t with
    | none => simp [hs] at hK
    | some s => simp only [hs] at hK; exact .me t s (by simp [meTy, ho]) hs (by simp [isRd, isGr, *]) (op_mapEntry ho (hG.mt t s hs) h hK)
  · rename_i t m i v ho
    unfold mstK at hK
    cases hs : msOf c t with
    | none => simp [hs] at hK
    | some s => simp only [hs] at hK; exact .an (by simp [isRd, isGr, *]) (op_entryStore (t := t) ho h hK)
  · rename_i ho; exact .rd ⟨by simp [isLr, isLd, *], by simp [mvAs, *]⟩ (op_nilCheck ho h hK)
  · rename_i ho; exact .rd ⟨by simp [isLr, isLd, *], by simp [mvAs, *]⟩ (op_pick ho h hK)
  · rename_i t ho
    cases hI : c.tv t with
    | none => simp [hI] at hK
    | some I => simp only [hI] at hK; exact .gr (.inl (by simp [isRd, *])) (op_alloc ho hI hT h hK)
  · rename_i t x ho
    cases hI : c.tv t with
    | none => simp [hI] at hK
    | some I => simp only [hI] at hK; exact .gr (.inl (by simp [isRd, *])) (op_box ho h hK)
  · rename_i t parts ho
    cases hI : c.tv t with
    | none => simp [hI] at hK
    | some I => simp only [hI] at hK; exact .rd ⟨by simp [isLr, isLd, *], by simp [mvAs, *]⟩ (op_build ho hI hT h hK)
  · rename_i t n parts ho
    cases hI : c.tv t with
    | none => simp [hI] at hK
    | some I =>
      simp only [hI] at hK
      cases hL : I.isL with
      | false => simp [hL] at hK
      | true =>
        simp only [hL, cond_true] at hK
        cases hE : c.tv I.elem with
        | none => simp [hE] at hK
        | some E =>
          simp only [hE] at hK
          cases hlim : Nat.ble (n * E.size) 16777216 with
          | false => simp [hlim] at hK
          | true => simp only [hlim, cond_true] at hK; exact .gr (.inl (by simp [isRd, *])) (op_buildSlice ho hI hL hE hT h hlim hK)
  · rename_i t x y ho
    cases hI : c.tv t with
    | none => simp [hI] at hK
    | some I =>
      simp only [hI] at hK
      cases hL : I.isL with
      | false => simp [hL] at hK
      | true =>
        simp only [hL, cond_true] at hK
        cases hE : c.tv I.elem with
        | none => simp [hE] at hK
        | some E => simp only [hE] at hK; exact .gr (.inl (by simp [isRd, *])) (op_makeSlice ho hI hL hE hT h hK)
  · rename_i t x ho
    cases hI : c.tv t with
    | none => simp [hI] at hK
    | some I =>
      simp only [hI] at hK
      cases hs : still c o with
      | true =>
        simp only [hs, cond_true] at hK
        split at hK
        · rename_i cs off hev
          obtain ⟨v, h1, h2⟩ := op_still ho hI hT h hev hK
          exact .ld ⟨by simp [isLr, isLd, *], by simp [mvAs, *]⟩ h.imm ⟨v, fun w' hw => h1 w' hw.2, h2⟩
        · simp at hK
      | false =>
        simp only [hs, cond_false] at hK
        obtain ⟨v, h1, h2⟩ := op_load ho hI hT h hK
        refine .ld ⟨by simp [isLr, isLd, *], by simp [mvAs, *]⟩ h.imm ⟨v, fun w' hw => h1 w' ?_, h2⟩
        have := hw.1 hs
        simpa [GrowFor, lkMS, lkTy, ho] using this
  · rename_i t x y ho
    cases hI : c.tv t with
    | none => simp [hI] at hK
    | some I => simp only [hI] at hK; exact .an (by simp [isRd, isGr, *]) (op_store ho hI hT h hK)
  · rename_i op t x y t' ho; exact .rd ⟨by simp [isLr, isLd, *], by simp [mvAs, *]⟩ (op_binOp ho h hG.eq hK)
  · rename_i ho; exact .rd ⟨by simp [isLr, isLd, *], by simp [mvAs, *]⟩ (op_unOp ho h hK)
  · rename_i s t x ho
    cases hL : isLT c s with
    | true =>
      simp only [hL, cond_true] at hK
      cases hY : c.tv s with
      | none => simp [hY] at hK
      | some Y =>
        cases hI : c.tv t with
        | none => simp [hY, hI] at hK
        | some I =>
          simp only [hY, hI] at hK
          obtain ⟨v, h1, h2⟩ := op_bytes ho hY hI (by simpa [isLT, hY] using hL) hT h hK
          refine .ld ⟨by simp [isLr, isLd, ho, hL], by simp [mvAs, ho]⟩ h.imm ⟨v, fun w' hw => h1 w' ?_, h2⟩
          have hs : still c o = false := by simp [still, ho]
          have := hw.1 hs
          simpa [GrowFor, lkMS, lkTy, ho] using this
    | false =>
      simp only [hL, cond_false] at hK
      cases hS : c.ti s with
      | none => simp [hS] at hK
      | some S =>
        simp only [hS] at hK
        cases hI : c.tv t with
        | none => simp [hI] at hK
        | some I =>
          simp only [hI] at hK
          obtain ⟨d, i, h1, _⟩ := hT s S hS
          exact .rd ⟨by simp [isLr, isLd, ho, hL], by simp [mvAs, ho]⟩ (op_convert ho (tv_some hI).1 hT ⟨d, h1⟩ (hG.fk t) h hK)
  · rename_i t x ho
    cases hI : c.tv t with
    | none => simp [hI] at hK
    | some I => simp only [hI] at hK; exact .an (by simp [isRd, isGr, *]) (op_range ho hI hT h hK)
  · rename_i x ho; exact .an (by simp [isRd, isGr, *]) (op_next ho h hK)
  · rename_i f first caps ho
    split at hK
    · rename_i hf
      have hf : first = #[] := by apply Array.toList_inj.1; simpa using hf
      subst hf
      exact .rd ⟨by simp [isLr, isLd, *], by simp [mvAs, *]⟩ (op_makeFunc ho h hK)
    · simp at hK
  · rename_i t x lo hi ho
    cases hI : c.tv t with
    | none => simp [hI] at hK
    | some I => simp only [hI] at hK; exact .rd ⟨by simp [isLr, isLd, *], by simp [mvAs, *]⟩ (op_slice ho hI hT h hK)
  · rename_i t x y z ho
    cases hI : c.tv t with
    | none => simp [hI] at hK
    | some I => simp only [hI] at hK; exact .rd ⟨by simp [isLr, isLd, *], by simp [mvAs, *]⟩ (op_clip ho hI hT h hK)
  · rename_i t x f ho
    cases hI : c.tv t with
    | none => simp [hI] at hK
    | some I => simp only [hI] at hK; exact .rd ⟨by simp [isLr, isLd, *], by simp [mvAs, *]⟩ (op_field1 ho hI hT h hK)
  · rename_i t x f ho
    cases hI : c.tv t with
    | none => simp [hI] at hK
    | some I => simp only [hI] at hK; exact .rd ⟨by simp [isLr, isLd, *], by simp [mvAs, *]⟩ (op_fld ho hI hT h hK)
  · rename_i t x y ho
    cases hI : c.tv t with
    | none => simp [hI] at hK
    | some I =>
      simp only [hI] at hK
      cases hE : c.tv I.elem with
      | none => simp [hE] at hK
      | some E => simp only [hE] at hK; exact .rd ⟨by simp [isLr, isLd, *], by simp [mvAs, *]⟩ (op_ixA ho hI hE hT h hK)
  · rename_i t x y ho
    cases hI : c.tv t with
    | none => simp [hI] at hK
    | some I => simp only [hI] at hK; exact .rd ⟨by simp [isLr, isLd, *], by simp [mvAs, *]⟩ (op_ix ho (tv_some hI).1 hT h hK)
  · rename_i ho; exact .rd ⟨by simp [isLr, isLd, *], by simp [mvAs, *]⟩ (op_ext ho h hK)
  · rename_i cl ho
    split at hK
    · rename_i f hcl
      cases hsg : c.sig (c.key f) with
      | some sg =>
        obtain ⟨pos, ks⟩ := sg
        simp only [hsg] at hK
        obtain ⟨hg, hw⟩ := op_cell hG.fn hsg ho hcl h hK
        exact .an (by simp [isRd, isGr, ho, hcl, hg]) hw
      | none =>
      simp only [hsg] at hK
      cases hI : c.ti o.type with
      | none => simp [hI] at hK
      | some I => simp only [hI] at hK; exact .cl f (by simp [isRd, isGr, *]) (op_call hG.fn ho hcl h hK)
    · rename_i x _ hcl
      cases hdy : c.dyn with
      | cons k0 cand => simp only [hdy] at hK; exact .an (by simp [isRd, isGr, ho, hcl, hdy]) (op_dynC hG.fn ho hcl h hK)
      | nil =>
      simp only [hdy] at hK
      cases hI : c.ti o.type with
      | none => simp [hI] at hK
      | some I => simp only [hI] at hK; exact .gr (.inl (by simp [isRd, *])) (op_dyn hG.fn ho hcl h hK)
    · rename_i hcl
      split at hK
      · rename_i t hat
        cases hI : c.tv t with
        | none => simp [hI] at hK
        | some I => simp only [hI] at hK; exact .rd ⟨by simp [isLr, isLd, *], by simp [mvAs, *]⟩ (op_len ho hcl hat hI hT h hK)
      · simp at hK
    · rename_i hcl
      split at hK
      · rename_i s x t t' hev hat
        cases hI : c.tv t with
        | none => simp [hI] at hK
        | some I =>
          simp only [hI] at hK
          cases hL : I.isL with
          | false => simp [hL] at hK
          | true =>
            simp only [hL, cond_true] at hK
            cases hE : c.tv I.elem with
            | none => simp [hE] at hK
            | some E =>
              simp only [hE] at hK
              obtain ⟨so, xo, hargs, rfl, rfl⟩ : ∃ so xo, cl.args.toList = [so, xo] ∧ evalO c st so = s ∧ evalO c st xo = x := by
                rw [evals_spec] at hev
                match hl : cl.args.toList, hev with
                | [so, xo], hev => simp at hev; exact ⟨so, xo, rfl, hev.1, hev.2⟩
                | [], hev => simp at hev
                | [_], hev => simp at hev
                | _ :: _ :: _ :: _, hev => simp at hev
              exact .an (by simp [isRd, isGr, hcl, ho]) (op_append ho hcl hargs hat hI hL hE hT h hK)
      · simp at hK
    · rename_i hcl
      rw [evals_spec] at hK
      split at hK
      · rename_i m heq
        cases hl : cl.args.toList with
        | nil => rw [hl] at heq; simp at heq
        | cons x xs =>
          rw [hl] at heq
          simp only [List.map_cons, List.cons.injEq, List.map_eq_nil_iff] at heq
          obtain ⟨he, rfl⟩ := heq
          unfold gCx at hK
          split at hK
          · rename_i u v
            have hx := rep_raw (by have := (h.eval x).1; rw [he] at this; exact this)
            have hx' : cl.args = #[x] := by rw [← Array.toList_inj, hl]
            refine .rd ⟨by simp [isLr, isLd, *], by simp [mvAs, *]⟩ (fin0 h ?_ (mk_raw (.float .f64 u) rfl) trivial hK)
            have hb : ∀ ts ty, Builtin.real_ ts ty #[.complex .f64 u v] = pure (.float .f64 u) := fun _ _ => rfl
            simp [execOp, ho, resolve, hcl, invoke, builtin, hb, hx', hx]
          · cases hK
      · cases hK
    · rename_i hcl
      rw [evals_spec] at hK
      split at hK
      · rename_i m heq
        cases hl : cl.args.toList with
        | nil => rw [hl] at heq; simp at heq
        | cons x xs =>
          rw [hl] at heq
          simp only [List.map_cons, List.cons.injEq, List.map_eq_nil_iff] at heq
          obtain ⟨he, rfl⟩ := heq
          unfold gCx at hK
          split at hK
          · rename_i u v
            have hx := rep_raw (by have := (h.eval x).1; rw [he] at this; exact this)
            have hx' : cl.args = #[x] := by rw [← Array.toList_inj, hl]
            refine .rd ⟨by simp [isLr, isLd, *], by simp [mvAs, *]⟩ (fin0 h ?_ (mk_raw (.float .f64 v) rfl) trivial hK)
            have hb : ∀ ts ty, Builtin.imag_ ts ty #[.complex .f64 u v] = pure (.float .f64 v) := fun _ _ => rfl
            simp [execOp, ho, resolve, hcl, invoke, builtin, hb, hx', hx]
          · cases hK
      · cases hK
    · rename_i hcl
      rw [evals_spec] at hK
      split at hK
      · rename_i u v heq
        match hl : cl.args.toList, heq with
        | [x, y], heq =>
          simp only [List.map_cons, List.map_nil, List.cons.injEq, and_true] at heq
          have hx := rep_raw (by have := (h.eval x).1; rw [heq.1] at this; exact this)
          have hy := rep_raw (by have := (h.eval y).1; rw [heq.2] at this; exact this)
          have hx' : cl.args = #[x, y] := by rw [← Array.toList_inj, hl]
          refine .rd ⟨by simp [isLr, isLd, *], by simp [mvAs, *]⟩ (fin0 h ?_ (mk_raw (.complex .f64 u v) rfl) trivial hK)
          have hb : ∀ ts ty, Builtin.complex_ ts ty #[.float .f64 u, .float .f64 v] = pure (.complex .f64 u v) := fun _ _ => rfl
          simp [execOp, ho, resolve, hcl, invoke, builtin, hb, hx', hx, hy]
        | [], heq => simp at heq
        | [_], heq => simp at heq
        | _ :: _ :: _ :: _, heq => simp at heq
      · cases hK
    · rename_i hcl
      cases hm : minK false (evals c st cl.args.toList) with
      | none => simp [hm] at hK
      | some m => simp only [hm] at hK; exact .rd ⟨by simp [isLr, isLd, *], by simp [mvAs, *]⟩ (op_minmax (mx := false) ho hcl h hm hK)
    · rename_i hcl
      cases hm : minK true (evals c st cl.args.toList) with
      | none => simp [hm] at hK
      | some m => simp only [hm] at hK; exact .rd ⟨by simp [isLr, isLd, *], by simp [mvAs, *]⟩ (op_minmax (mx := true) ho hcl h hm hK)
    · simp at hK
  · simp at hK
theorem OpDone.wp (h : OpDone P c Z K r e a w o Q) : o.wp P a w (Out c Z K r e.φ w) Q := by
  cases h with
  | rd _ h => exact h.wp trivial
  | ld _ hi h => exact h.wp ⟨fun _ => (Grow.refl w).for, hi⟩
  | me _ _ _ _ _ h => exact Oper.wp_mono (fun a w h => h.2) h
  | gr _ h => exact Oper.wp_mono (fun a w h => h.2) h
  | cl f _ h => exact Oper.wp_mono (fun a w h => h.2) h
  | an _ h => exact h
theorem OpDone.rdOf (h : OpDone P c Z K r e a w o Q) (hr : isRd o = true) (hv : mvAs c o = false) : Rd P c Z K r e a w o (fun w' => isLr c o = true → (still c o = false → GrowFor c o w w') ∧ Imm e.φ w') := by
  cases h with
  | rd hl h => obtain ⟨v, h1, h2⟩ := h; exact ⟨v, fun w' _ => h1 w' trivial, h2⟩
  | ld hl _ h => obtain ⟨v, h1, h2⟩ := h; exact ⟨v, fun w' hg => h1 w' (hg hl.1), h2⟩
  | gr hn h => rw [hr, hv] at hn; simp at hn
  | me _ _ _ _ hn h => rw [hr] at hn; cases hn.1
  | cl f hn h => rw [hr] at hn; cases hn.1
  | an hn h => rw [hr] at hn; cases hn.1
theorem OpDone.grOf (h : OpDone P c Z K r e a w o Q) (hr : isRd o = true ∨ isGr c o = true) : o.wp P a w (fun a' w' => Grow w w' ∧ Out c Z K r e.φ w a' w') Q := by
  have rd : ∀ G : World → Prop, G w → Rd P c Z K r e a w o G → o.wp P a w (fun a' w' => Grow w w' ∧ Out c Z K r e.φ w a' w') Q := by
    rintro G hG ⟨v, h1, h2⟩
    unfold Oper.wp
    rw [h1 w hG, Oper.upon_value]; exact ⟨.refl w, h2⟩
  cases h with
  | rd hl h => exact rd _ trivial h
  | ld _ hi h => exact rd _ ⟨fun _ => (Grow.refl w).for, hi⟩ h
  | me _ _ _ _ hn h =>
    rcases hr with hr | hr
    · rw [hr] at hn; cases hn.1
    · rw [hr] at hn; cases hn.2
  | gr hn h => exact h
  | cl f hn h =>
    rcases hr with hr | hr
    · rw [hr] at hn; cases hn.1
    · rw [hn.2] at hr
      exact Oper.wp_mono (fun a w h => ⟨h.1 (by simpa using hr), h.2⟩) h
  | an hn h =>
    rcases hr with hr | hr
    · rw [hr] at hn; cases hn.1
    · rw [hr] at hn; cases hn.2
theorem op_me (hG : Good P c) (h : Sim c Z e st a w) (hK : opK c o st (fun s st => setDst c st o.dst s K) = some r) {oi : Oper} (hr : entOK oi o = true) : o.wp P a w (fun a' w' => GrowFor c oi w w' ∧ Out c Z K r e.φ w a' w') Q := by
  unfold entOK at hr
  split at hr
  · rename_i t t' h1 h2
    have ht := Nat.eq_of_beq_eq_true hr
    subst ht
    have hme : ∃ m k, o.op = .mapEntry t m k := by
      unfold meTy at h2
      split at h2
      · rename_i u m k ho; cases h2; exact ⟨m, k, ho⟩
      · cases h2
    obtain ⟨m, k, ho⟩ := hme
    unfold opK at hK
    simp only [ho] at hK
    unfold mentK at hK
    cases hs : msOf c t with
    | none => simp [hs] at hK
    | some s =>
      simp only [hs] at hK
      refine Oper.wp_mono (fun a w h => ⟨?_, h.2⟩) (op_mapEntry ho (hG.mt t s hs) h hK)
      simpa [GrowFor, lkMS, h1, hs] using h.1
  · cases hr
end

end Dn
/-
  Guards; operations one behind the other. Conditions: none.
-/
set_option linter.unusedSimpArgs false
set_option linter.unusedVariables false
namespace Dn
open Go

section
variable {P : Program} {c : Ctx} {Z Z' : Zone} {e e' : Env} {st : St} {a : Act} {w w' : World} {R : Type} {K : St → Option R} {r : R} {Q : Exit → Act → World → Prop} {o : Oper}

/-- the same slots in another list -/
theorem Sim.frame {fr' : Fr} (h : Sim c Z e st a w) (hf : ∀ t, fget fr' t = fget st.fr t) (hn : (keysOf fr').Nodup) : Sim c Z e { st with fr := fr' } a w := by
  have hr : ∀ s, rootOK st.fr s → rootOK fr' s := by intro s hs; cases s <;> simp only [rootOK, hf] at hs ⊢ <;> exact hs
  exact ⟨h.defers, h.size, h.m, h.key, hn, fun t => by show SlotAt Z e w t _ (fget fr' t); rw [hf]; exact h.slot t, fun t => by show rootOK fr' (fget fr' t); rw [hf]; exact hr _ (h.root t), h.fam,
    fun t t' cs cs' h1 h2 => h.bb t t' cs cs' (by rw [← hf]; exact h1) (by rw [← hf]; exact h2), fun t cs f o h1 => h.bf t cs f o (by rw [← hf]; exact h1), h.ff, h.imm, h.zone⟩
theorem Sim.reset {t : Nat} {s : Slot} (h : Sim c Z e st a w) (hs : fget st.fr t = s) : Sim c Z e { st with fr := fsetP st.fr t s } a w := by
  refine h.frame (fun t' => ?_) (nodup_fsetP h.nodup)
  rw [fget_fsetP]
  by_cases ht : t' = t
  · subst ht; simp [hs]
  · simp [ht]

theorem guard_ok {ops : Array Oper} {K' : Bool → St → Option R} (h : Sim c Z e st a w) (hK : guardK ops.toList o st K' = some r) :
    ∃ st' go, Sim c Z e st' a w ∧ K' go st' = some r ∧ Region.wanted o (yielded ops a.tmps) = go := by
  unfold guardK at hK
  unfold Region.wanted
  cases hg : o.guard with
  | none => simp only [hg] at hK; exact ⟨st, true, h, hK, rfl⟩
  | some jw =>
    obtain ⟨j, want⟩ := jw
    simp only [hg] at hK
    cases hp : ops.toList[j]? with
    | none => simp [hp] at hK
    | some p =>
      simp only [hp] at hK
      have hp' : ops[j]? = some p := by simpa using hp
      cases hd : p.dst with
      | none => simp [hd] at hK
      | some t =>
        simp only [hd] at hK
        have hsl := h.slot t
        split at hK
        · rename_i v hv
          rw [hv] at hsl
          have hval : a.tmps.getD t undef = .bool v := rep_b hsl
          have hy : yielded ops a.tmps j = some v := by
            unfold yielded
            have : a.tmps[t]? = some (.bool v) := by
              rw [Array.getD_eq_getD_getElem?] at hval
              cases ht : a.tmps[t]? with
              | none => rw [ht] at hval; simp [undef] at hval
              | some u => rw [ht] at hval; simpa using hval
            simp [hp', hd, this]
          simp only [hy]
          cases v <;> simp only [fset_eq] at hK
          · exact ⟨_, _, h.reset hv, hK, by cases want <;> rfl⟩
          · exact ⟨_, _, h.reset hv, hK, by cases want <;> rfl⟩
        · rename_i hv
          rw [hv] at hsl
          simp only [SlotAt, SlotRep] at hsl
          have hy : yielded ops a.tmps j = none := by
            unfold yielded
            rw [Array.getD_eq_getD_getElem?] at hsl
            cases ht : a.tmps[t]? with
            | none => simp [hp', hd, ht]
            | some u => rw [ht] at hsl; simp at hsl; subst hsl; simp [hp', hd, ht, undef]
          simp only [hy]
          exact ⟨st, false, h, hK, by cases want <;> rfl⟩
        · simp at hK

theorem step_ok {ops : Array Oper} {i : Nat} (hG : Good P c) (hi : ops[i]? = some o) (h : Sim c Z e st a w) (hK : stepK c ops.toList o st K = some r) :
    wpOp P ops Q i (Out c Z K r e.φ w) a w := by
  unfold stepK at hK
  obtain ⟨st', go, h', hK, hw⟩ := guard_ok h hK
  unfold wpOp
  simp only [hi]
  rw [hw]
  cases go with
  | true =>
    simp only [cond_true] at hK
    simp only [if_true]
    exact .inl (op_all hG h' hK).wp
  | false =>
    simp only [cond_false] at hK
    simp only [Bool.false_eq_true, if_false]
    obtain ⟨e2, st2, h1, h2, h3⟩ := setDst_sim (v := undef) (s := .skip) h' ⟨rfl, trivial⟩ hK
    exact ⟨e2, st2, h1, by rw [h3]; exact .refl _ _ _, h2⟩

/-- operations one behind the other -/
theorem ops_ok {ops : Array Oper} {is : List Nat} (hG : Good P c) : ∀ {os : List Oper} {e : Env} {st : St} {a : Act} {w : World}, is.map (ops[·]?) = os.map some → Sim c Z e st a w → opsK c ops.toList os st K = some r →
    ∀ {φ0 : Ph} {w0 : World}, Trans Z φ0 w0 e.φ w → (∀ a' w', Out c Z K r φ0 w0 a' w' → Q .normal a' w') → wpOps P ops Q is a w := by
  induction is with
  | nil =>
    intro os e st a w hm h hK φ0 w0 ht hQ
    cases os with
    | nil => exact hQ a w ⟨e, st, h, ht, hK⟩
    | cons => simp at hm
  | cons i is ih =>
    intro os e st a w hm h hK φ0 w0 ht hQ
    cases os with
    | nil => simp at hm
    | cons o os =>
      simp only [List.map_cons, List.cons.injEq] at hm
      simp only [opsK] at hK
      rw [wpOps_cons]
      refine wpOp_mono ?_ (step_ok hG hm.1 h hK)
      rintro a' w' ⟨e2, st2, h1, h2, h3⟩
      exact ih hm.2 h1 h3 (ht.trans h2) hQ
end

end Dn
/-
  Parts of a state. Conditions: none.
-/
set_option linter.unusedSimpArgs false
set_option linter.unusedVariables false
namespace Dn
open Go

section
variable {P : Program} {c : Ctx} {Z Zi : Zone} {e e' : Env} {st st' : St} {a : Act} {w w' : World} {R : Type} {K : St → Option R} {r : R} {Q : Exit → Act → World → Prop} {o : Oper}

/-- some families are shared from now on -/
theorem freezeAll {fs : List Nat} : ∀ {e : Env} {st : St}, Sim c Z e st a w → (∀ f ∈ fs, ∀ o, oget st.fams f = some o → f ∉ Z.pfam ∨ o.frz = true) →
    ∃ φ' m', PhLe e.φ φ' ∧ (∀ b off, ¬ Z.In b → φ' b off = e.φ b off) ∧ Sim c Z { e with φ := φ', m := m' } { st with fams := m' } a w ∧
      (∀ f, oget m' f = (oget st.fams f).map fun o => if f ∈ fs then ⟨o.ty, true, o.xs⟩ else o) ∧
      (∀ f ∈ fs, ∀ o I cells, oget st.fams f = some o → c.ti o.ty = some I → w.ownsRow 0 o.ty I.size (e.E f) o.xs.length cells → ∀ blk, (e.E f).ownBlock = some blk → ∀ j, j < cells.length → φ' blk j = cells[j]?) := by
  induction fs with
  | nil =>
    intro e st h _
    refine ⟨e.φ, st.fams, .refl _, fun _ _ _ => rfl, ?_, fun f => by cases oget st.fams f <;> simp, fun f hf => by simp at hf⟩
    have hm : e.m = st.fams := h.m
    have he : ({ e with φ := e.φ, m := st.fams } : Env) = e := by cases e; simp at hm ⊢; exact hm.symm
    rw [he]; exact h
  | cons g gs ih =>
    intro e st h hp
    cases hg : oget st.fams g with
    | none =>
      obtain ⟨φ', m', h1, h2, h3, h4, h5⟩ := ih h (fun f hf => hp f (by simp [hf]))
      refine ⟨φ', m', h1, h2, h3, fun f => ?_, fun f hf o I cells ho => ?_⟩
      · rw [h4]
        by_cases hfg : f = g
        · subst hfg; rw [hg]; rfl
        · simp [hfg]
      · rcases List.mem_cons.1 hf with rfl | hf
        · rw [hg] at ho; cases ho
        · exact h5 f hf o I cells ho
    | some og =>
      obtain ⟨φ1, k1, k2, k3, _, k5⟩ := freeze h hg (hp g (by simp) og hg)
      obtain ⟨φ', m', h1, h2, h3, h4, h5⟩ := ih k3 (by
        intro f hf o ho
        have ho : oget (osetP st.fams g ⟨og.ty, true, og.xs⟩) f = some o := ho
        rw [oget_osetP] at ho
        by_cases hfg : f = g
        · rw [if_pos hfg] at ho; cases ho; exact .inr rfl
        · rw [if_neg hfg] at ho; exact hp f (by simp [hf]) o ho)
      refine ⟨φ', m', k1.trans h1, fun b off hb => (h2 b off hb).trans (k2 b off hb), h3, fun f => ?_, fun f hf o I cells ho hI hown blk hb j hj => ?_⟩
      · rw [h4]
        show Option.map _ (oget (osetP st.fams g ⟨og.ty, true, og.xs⟩) f) = _
        rw [oget_osetP]
        by_cases hfg : f = g
        · subst hfg; simp [hg]
        · simp [hfg]
      · by_cases hfg : f = g
        · subst hfg
          rw [hg] at ho
          cases ho
          exact h1.some_of (k5 I cells hI hown blk hb j hj) hj
        · rcases List.mem_cons.1 hf with rfl | hf
          · exact absurd rfl hfg
          · refine h5 f hf o I cells ?_ hI hown blk hb j hj
            show oget (osetP st.fams g ⟨og.ty, true, og.xs⟩) f = _
            rw [oget_osetP, if_neg hfg]; exact ho
end

end Dn
/-
  What a piece of code begins with, and what stays as it was behind it. Conditions: none.
-/
set_option linter.unusedSimpArgs false
set_option linter.unusedVariables false
namespace Dn
open Go

theorem meets_false {l k : List Nat} (h : meets l k = false) : ∀ x ∈ l, x ∉ k := by
  induction l with
  | nil => simp
  | cons y l ih =>
    simp only [meets] at h
    cases hm : nmem k y with
    | true => simp [hm] at h
    | false =>
      simp only [hm, cond_false] at h
      intro x hx
      rcases List.mem_cons.1 hx with rfl | hx
      · rw [← nmem_iff, hm]; simp
      · exact ih h x hx
theorem keys_pickP {ks : List Nat} {r : Fr} : ∀ t ∈ keysOf (pickP ks r), t ∈ ks := by
  induction r with
  | nil => simp [keysOf, pickP]
  | cons p r ih =>
    obtain ⟨k, x⟩ := p
    simp only [pickP]
    cases hb : nmem ks k && !isPtr x with
    | false => simpa using ih
    | true =>
      simp only [Bool.and_eq_true] at hb
      intro t ht
      simp only [cond_true, keysOf, List.map_cons, List.mem_cons] at ht
      rcases ht with rfl | ht
      · exact (nmem_iff _ _).1 hb.1
      · exact ih t ht
theorem keys_nFrP {qs : List Nat} {r : Fr} : keysOf (nFrP qs r) = keysOf r := by simp [keysOf, nFrP]
theorem oget_pickFP {ks fs qs : List Nat} {m : List (Nat × Own)} {f : Nat} :
    oget (pickFP ks fs qs m) f = if f ∈ ks then (oget m f).map fun o => if f ∈ fs ∧ f ∉ qs then ⟨o.ty, true, o.xs⟩ else o else none := by
  induction m with
  | nil => simp [pickFP, oget]
  | cons p m ih =>
    obtain ⟨k, o⟩ := p
    simp only [pickFP]
    by_cases hk : k = f
    · subst hk
      cases hm : nmem ks k with
      | false =>
        have : k ∉ ks := by rw [← nmem_iff, hm]; simp
        simp only [cond_false, ih, this, if_false]
      | true =>
        have : k ∈ ks := (nmem_iff _ _).1 hm
        simp only [cond_true, this, if_true, oget, nbeq, decide_true]
        cases hc : nmem fs k && !nmem qs k with
        | true =>
          simp only [Bool.and_eq_true, Bool.not_eq_true'] at hc
          have h1 := (nmem_iff _ _).1 hc.1
          have h2 : k ∉ qs := by rw [← nmem_iff, hc.2]; simp
          simp [oget, nbeq, h1, h2]
        | false =>
          have : ¬ (k ∈ fs ∧ k ∉ qs) := by
            rintro ⟨h1, h2⟩
            rw [← nmem_iff] at h1
            have h2 : nmem qs k = false := by cases hq : nmem qs k with | false => rfl | true => exact absurd ((nmem_iff _ _).1 hq) h2
            simp [h1, h2] at hc
          simp [oget, nbeq, this]
    · cases hm : nmem ks k with
      | false => simp only [cond_false, ih, oget, nbeq, hk, decide_false]
      | true =>
        simp only [cond_true, oget, nbeq, hk, decide_false, cond_false]
        cases nmem fs k && !nmem qs k <;> simp only [cond_true, cond_false, oget, nbeq, hk, decide_false] <;> exact ih
theorem oget_append (m n : List (Nat × Own)) (f : Nat) : oget (m ++ n) f = (match oget m f with | some o => some o | none => oget n f) := by
  induction m with
  | nil => simp [oget]
  | cons p m ih =>
    obtain ⟨k, o⟩ := p
    simp only [List.cons_append, oget, nbeq]
    by_cases hk : k = f <;> simp [hk, ih]

/-- the leaves of a slot -/
def slotLs : Slot → List Leaf
  | .sc l => [l]
  | .ag cs => cs
  | .box cs => cs
  | _ => []

section
variable {P : Program} {c : Ctx} {Z Zb Zi : Zone} {e e' : Env} {st st' B : St} {a a' : Act} {w w' : World} {R : Type} {K : St → Option R} {r : R} {Q : Exit → Act → World → Prop} {o : Oper} {hn : Hint}

/-- what no piece of code may change while it runs: a part of the state ahead of it -/
structure Joins (c : Ctx) (Zb Zi : Zone) (e : Env) (B : St) (hn : Hint) (a : Act) (w : World) : Prop where
  sim : Sim c Zb e B a w
  sub : ∀ b, Zi.In b → Zb.In b
  new : ∀ b, w.heap.size ≤ b → Zi.In b
  prot : ∀ t ∈ Zb.prot, t ∈ Zi.prot
  T : ∀ t ∈ Zi.prot, a.tmps.getD t undef = Zi.T t
  keys : ∀ t ∈ keysOf B.fr, t ∈ Zi.prot
  box : ∀ t cs, fget B.fr t = .box cs → ¬ Zi.In (e.B t)
  fam : ∀ f o b, oget B.fams f = some o → (e.E f).ownBlock = some b → ¬ Zi.In b
  outK : ∀ t ∈ outKeys hn.all, t ∉ Zb.prot ∧ t ∉ Zi.prot
  outF : ∀ f ∈ outFams hn.all, f ∉ Zb.pfam ∧ oget B.fams f = none
  ptr : ∀ t, isPtr (fget B.fr t) = false
  men : ∀ t f, Leaf.own f ∈ slotLs (fget B.fr t) → f ∉ outFams hn.all

theorem Joins.later {φ' : Ph} (h : Joins c Zb Zi e B hn a w) (ht : Trans Zi.In e.φ w φ' w') (hi : Imm φ' w') (hd : a'.defers = []) (hs : a'.tmps.size = c.n) (hT : ∀ t ∈ Zi.prot, a'.tmps.getD t undef = Zi.T t) :
    Joins c Zb Zi { e with φ := φ' } B hn a' w' := by
  have h1 := h.sim.called (Z' := Zi.In) h.sub h.box h.fam ht hi
  refine ⟨?_, h.sub, fun b hb => h.new b (Nat.le_trans ht.size hb), h.prot, hT, h.keys, h.box, h.fam, h.outK, h.outF, h.ptr, h.men⟩
  have hsame : ∀ t ∈ Zi.prot, a'.tmps.getD t undef = a.tmps.getD t undef := fun t ht => (hT t ht).trans (h.T t ht).symm
  refine ⟨⟨hd, h1.defers.2.1, h1.defers.2.2.1, fun t ht => (hsame t (h.prot t ht)).trans (h1.defers.2.2.2 t ht)⟩, hs, h1.m, h1.key, h1.nodup, ?_, h1.root, h1.fam, h1.bb, h1.bf, h1.ff, h1.imm, h1.zone⟩
  intro t
  by_cases hk : t ∈ keysOf B.fr
  · rw [hsame t (h.keys t hk)]; exact h1.slot t
  · rw [fget_none _ _ hk]; simp [SlotAt, SlotRep]

theorem begin_ok0 {K2 : St → St → Option R} (h : Sim c Z e st a w) (hK : begin0 c hn st K2 = some r) :
    ∃ Zi e1 e2 st1 st2, Sim c Zi e1 st1 a w ∧ Trans Z.In e.φ w e1.φ w ∧ e2.φ = e1.φ ∧ e2.key = e1.key ∧ Joins c Z Zi e2 (after_ st st2) hn a w ∧ Joins c Zi Zi e2 st2 hn a w ∧ (∀ b, Zi.In b → Z.In b) ∧ outTys c hn.all = true ∧ K2 st1 st2 = some r := by
  obtain ⟨p, q, fr, m⟩ := st
  unfold begin0 at hK
  simp only [app_eq, pick_eq, nFr_eq, pickF_eq] at hK
  cases hmt : !outTys c hn.all || meets (outKeys hn.all) p || meets (outFams hn.all) q || meets (outKeys hn.all) hn.prot || meets (outFams hn.all) hn.pfam with
  | true => simp [hmt] at hK
  | false =>
    simp only [hmt, cond_false] at hK
    simp only [Bool.or_eq_false_iff, Bool.not_eq_false'] at hmt
    obtain ⟨⟨⟨⟨m0, m1⟩, m2⟩, m3⟩, m4⟩ := hmt
    have m1 := meets_false m1
    have m2 := meets_false m2
    have m3 := meets_false m3
    have m4 := meets_false m4
    have hpq : p = Z.prot ∧ q = Z.pfam := ⟨h.defers.2.1, h.defers.2.2.1⟩
    -- the families that are shared, and are known whole from now on
    let mp := pickFP hn.pfam hn.frz q m
    let mo := pickFP (outFams hn.all) hn.frz q m
    let rp := nFrP hn.pfam (pickP hn.prot fr)
    let ro := pickP (outKeys hn.all) fr
    let fs := hn.pfam.filter fun f => match oget mp f with | some o => o.frz | none => false
    have hmp : ∀ f o, oget mp f = some o → f ∈ hn.pfam ∧ ∃ o0, oget m f = some o0 ∧ o0.ty = o.ty ∧ o0.xs = o.xs ∧ (o0.frz = true → o.frz = true) ∧ (f ∈ q → o = o0) := by
      intro f o ho
      have ho : oget (pickFP hn.pfam hn.frz q m) f = some o := ho
      rw [oget_pickFP] at ho
      split at ho
      · rename_i hf
        refine ⟨hf, ?_⟩
        cases h0 : oget m f with
        | none => rw [h0] at ho; cases ho
        | some o0 =>
          rw [h0] at ho
          simp only [Option.map_some, Option.some.injEq] at ho
          refine ⟨o0, rfl, ?_⟩
          split at ho
          · rename_i hc; subst ho; exact ⟨rfl, rfl, fun _ => rfl, fun hq => absurd hq hc.2⟩
          · subst ho; exact ⟨rfl, rfl, id, fun _ => rfl⟩
      · cases ho
    have hmo : ∀ f o, oget mo f = some o → f ∈ outFams hn.all ∧ ∃ o0, oget m f = some o0 ∧ o0.ty = o.ty ∧ o0.xs = o.xs ∧ (o0.frz = true → o.frz = true) := by
      intro f o ho
      have ho : oget (pickFP (outFams hn.all) hn.frz q m) f = some o := ho
      rw [oget_pickFP] at ho
      split at ho
      · rename_i hf
        refine ⟨hf, ?_⟩
        cases h0 : oget m f with
        | none => rw [h0] at ho; cases ho
        | some o0 =>
          rw [h0] at ho
          simp only [Option.map_some, Option.some.injEq] at ho
          refine ⟨o0, rfl, ?_⟩
          split at ho
          · subst ho; exact ⟨rfl, rfl, fun _ => rfl⟩
          · subst ho; exact ⟨rfl, rfl, id⟩
      · cases ho
    obtain ⟨φ', m', f1, f2, f3, f4, f5⟩ := freezeAll (fs := fs) h (by
      intro f hf o ho
      simp only [fs, List.mem_filter] at hf
      obtain ⟨hf1, hf2⟩ := hf
      by_cases hq : f ∈ Z.pfam
      · right
        cases hmf : oget mp f with
        | none => simp [hmf] at hf2
        | some o1 =>
          simp only [hmf] at hf2
          obtain ⟨_, o0, g1, _, _, _, g5⟩ := hmp f o1 hmf
          have ho : oget m f = some o := ho
          rw [g1] at ho
          cases ho
          have := g5 (by rw [hpq.2]; exact hq)
          rw [← this]; exact hf2
      · exact .inl hq)
    -- the memory of what is handed in and may be changed
    let Zi : Zone := ⟨fun b => Z.In b ∧ (∀ t cs, fget rp t = .box cs → e.B t ≠ b) ∧ (∀ f o, oget mp f = some o → (e.E f).ownBlock ≠ some b), hn.prot ++ p, hn.pfam ++ q, fun t => a.tmps.getD t undef, False, fun _ => True⟩
    have hsz : ∀ b, w.heap.size ≤ b → Zi.In b := by
      intro b hb
      refine ⟨f3.zone b hb, fun t cs ht => ?_, fun f o ho hbl => ?_⟩
      · have hrp : fget rp t = nSP hn.pfam (fget (pickP hn.prot fr) t) := fget_nFrP _ _ _
        rw [hrp, fget_pickP _ _ h.nodup] at ht
        split at ht
        · have : ∃ cs0, fget fr t = .box cs0 := by
            generalize fget fr t = s at ht
            cases s <;> simp only [nSP] at ht <;> first | (cases ht; done) | exact ⟨_, rfl⟩
          obtain ⟨cs0, h0⟩ := this
          have := box_lt (st := ⟨p, q, fr, m⟩) h h0
          omega
        · simp [nSP, nLP] at ht
      · obtain ⟨_, o0, g1, _⟩ := hmp f o ho
        have := fam_lt (st := ⟨p, q, fr, m⟩) h g1 hbl
        omega
    have hgrp : ∀ t, fget rp t = if nmem hn.prot t && !isPtr (fget fr t) then nSP hn.pfam (fget fr t) else .sc .un := by
      intro t
      have hrp : fget rp t = nSP hn.pfam (fget (pickP hn.prot fr) t) := fget_nFrP _ _ _
      rw [hrp, fget_pickP _ _ h.nodup]
      split <;> rfl
    have hgro : ∀ t, fget ro t = if nmem (outKeys hn.all) t && !isPtr (fget fr t) then fget fr t else .sc .un := fun t => fget_pickP _ _ h.nodup t
    have hkrp : ∀ t ∈ keysOf rp, t ∈ hn.prot := by
      intro t ht
      have ht : t ∈ keysOf (nFrP hn.pfam (pickP hn.prot fr)) := ht
      rw [keys_nFrP] at ht
      exact keys_pickP t ht
    have hrpbox : ∀ t cs, fget rp t = .box cs → t ∈ hn.prot ∧ ∃ cs0, fget fr t = .box cs0 := by
      intro t cs ht
      rw [hgrp] at ht
      split at ht
      · rename_i hc
        simp only [Bool.and_eq_true] at hc
        refine ⟨(nmem_iff _ _).1 hc.1, ?_⟩
        generalize fget fr t = s at ht
        cases s <;> simp only [nSP] at ht <;> first | (cases ht; done) | exact ⟨_, rfl⟩
      · cases ht
    have hfrz : ∀ f o, oget mp f = some o → o.frz = true → f ∈ fs := by
      intro f o ho hz
      simp only [fs, List.mem_filter]
      exact ⟨(hmp f o ho).1, by simp only [ho]; exact hz⟩
    have hm' : ∀ f o0, oget m f = some o0 → oget m' f = some (if f ∈ fs then ⟨o0.ty, true, o0.xs⟩ else o0) := by
      intro f o0 h0
      rw [f4]
      show Option.map _ (oget m f) = _
      rw [h0]; rfl
    have hsub1 : ∀ f o, oget (mp ++ mo) f = some o → ∃ o1, oget m' f = some o1 ∧ o1.ty = o.ty ∧ o1.xs = o.xs ∧ (o1.frz = true → o.frz = true) := by
      intro f o ho
      rw [oget_append] at ho
      cases hmf : oget mp f with
      | some o1 =>
        simp only [hmf, Option.some.injEq] at ho
        subst ho
        obtain ⟨_, o0, g1, g2, g3, g4, _⟩ := hmp f o1 hmf
        refine ⟨_, hm' f o0 g1, ?_⟩
        split
        · rename_i hfs
          refine ⟨g2, g3, fun _ => ?_⟩
          simp only [fs, List.mem_filter, hmf] at hfs
          exact hfs.2
        · exact ⟨g2, g3, g4⟩
      | none =>
        simp only [hmf] at ho
        obtain ⟨g0, o0, g1, g2, g3, g4⟩ := hmo f o ho
        refine ⟨_, hm' f o0 g1, ?_⟩
        have : f ∉ fs := by
          intro hfs
          simp only [fs, List.mem_filter] at hfs
          exact m4 f g0 hfs.1
        rw [if_neg this]
        exact ⟨g2, g3, g4⟩
    have hsub2 : ∀ f o, oget mp f = some o → ∃ o1, oget m' f = some o1 ∧ o1.ty = o.ty ∧ o1.xs = o.xs ∧ (o1.frz = true → o.frz = true) := by
      intro f o ho
      exact hsub1 f o (by rw [oget_append, ho])
    have hcov : ∀ f o I cells b, oget mp f = some o → o.frz = true → c.ti o.ty = some I → w.ownsRow 0 o.ty I.size (e.E f) o.xs.length cells → (e.E f).ownBlock = some b → ∀ j, j < cells.length → φ' b j = cells[j]? := by
      intro f o I cells b ho hz hI hown hb j hj
      obtain ⟨_, o0, g1, g2, g3, _⟩ := hmp f o ho
      exact f5 f (hfrz f o ho hz) o0 I cells g1 (by rw [g2]; exact hI) (by rw [g2, g3]; exact hown) b hb j hj
    have hmark : (hn.prot ++ p) = Zi.prot ∧ (hn.pfam ++ q) = Zi.pfam ∧ ∀ t ∈ Zi.prot, a.tmps.getD t undef = Zi.T t := ⟨rfl, rfl, fun _ _ => rfl⟩
    have hkd : (keysOf rp).Nodup := by
      have : keysOf rp = keysOf (pickP hn.prot fr) := keys_nFrP
      rw [this]
      exact (keysOf_pickP _ _).nodup h.nodup
    have hslot2 : ∀ t, fget rp t = .sc .un ∨ (isPtr (fget fr t) = false ∧ (fget rp t = fget fr t ∨ ∃ qs, fget rp t = nSP qs (fget fr t))) := by
      intro t
      rw [hgrp]
      cases hc : nmem hn.prot t && !isPtr (fget fr t) with
      | false => exact .inl (by simp)
      | true =>
        simp only [Bool.and_eq_true, Bool.not_eq_true'] at hc
        exact .inr ⟨hc.2, .inr ⟨hn.pfam, by simp⟩⟩
    have hbase : ∀ (Zb : Zone) (pb qb : List Nat), pb = Zb.prot → qb = Zb.pfam → (∀ t ∈ Zb.prot, a.tmps.getD t undef = Zb.T t) → (∀ t ∈ Z.prot, t ∈ Zb.prot) → (∀ t cs, fget rp t = .box cs → (t ∈ Zb.prot ∧ Zb.Pr (e.B t)) ∨ Zb.In (e.B t)) →
        (∀ f o b, oget mp f = some o → (e.E f).ownBlock = some b → (f ∈ Zb.pfam ∧ Zb.Pr b) ∨ Zb.In b) → (∀ b, w.heap.size ≤ b → Zb.In b) → Sim c Zb { e with φ := φ', m := mp } ⟨pb, qb, rp, mp⟩ a w := by
      intro Zb pb qb h1 h2 h3 hpp h4 h5 h6
      exact f3.sub (st' := ⟨pb, qb, rp, mp⟩) hpp ⟨h1, h2, h3⟩ hkd hslot2 hsub2 h4 h5 (fun f o I cells b ho _ hz hI hown hb j hj => hcov f o I cells b ho hz hI hown hb j hj) h6
    have hmen : ∀ t f, Leaf.own f ∈ slotLs (fget rp t) → f ∉ outFams hn.all := by
      intro t f hf
      have : f ∈ hn.pfam := by
        rw [hgrp] at hf
        split at hf
        · generalize fget fr t = s at hf
          cases s <;> simp only [nSP, slotLs, List.mem_cons, List.mem_map, List.not_mem_nil, or_false] at hf
          · exact nLP_on hn.pfam _ f hf.symm
          · obtain ⟨l, _, hl⟩ := hf; exact nLP_on hn.pfam l f hl
          · obtain ⟨l, _, hl⟩ := hf; exact nLP_on hn.pfam l f hl
        · simp [slotLs] at hf
      exact fun ho => m4 f ho this
    have hptr : ∀ t, isPtr (fget rp t) = false := by
      intro t
      rw [hgrp]
      split
      · rename_i hc
        simp only [Bool.and_eq_true, Bool.not_eq_true'] at hc
        generalize fget fr t = s at hc
        cases s <;> simp [isPtr] at hc <;> rfl
      · rfl
    have hZsub : ∀ b, Zi.In b → Z.In b := fun b hb => hb.1
    refine ⟨Zi, { e with φ := φ', m := mp ++ mo }, { e with φ := φ', m := mp }, ⟨hn.prot ++ p, hn.pfam ++ q, rp ++ ro, mp ++ mo⟩, ⟨hn.prot ++ p, hn.pfam ++ q, rp, mp⟩, ?_, ⟨f1, fun _ _ _ => rfl, f2, Nat.le_refl _, .refl _⟩, rfl, rfl, ?_, ?_, hZsub, m0, hK⟩
    · have hkk : ∀ t, fget (rp ++ ro) t = fget rp t ∨ (t ∈ outKeys hn.all ∧ fget rp t = .sc .un ∧ fget (rp ++ ro) t = fget ro t) := by
        intro t
        rw [fget_append]
        by_cases hk : t ∈ keysOf rp
        · simp [hk]
        · simp only [hk, if_false]
          have h0 := fget_none rp t hk
          by_cases hk2 : t ∈ outKeys hn.all
          · exact .inr ⟨hk2, h0, trivial⟩
          · left
            rw [h0, hgro]
            have : nmem (outKeys hn.all) t = false := by cases hq : nmem (outKeys hn.all) t with | false => rfl | true => exact absurd ((nmem_iff _ _).1 hq) hk2
            simp [this]
      refine f3.sub (st' := ⟨hn.prot ++ p, hn.pfam ++ q, rp ++ ro, mp ++ mo⟩) (fun t ht => List.mem_append_right _ (by rw [hpq.1]; exact ht)) hmark ?_ ?_ hsub1 ?_ ?_ ?_ hsz
      · show (keysOf (rp ++ ro)).Nodup
        have : keysOf (rp ++ ro) = keysOf rp ++ keysOf ro := by simp [keysOf]
        rw [this]
        refine List.nodup_append.2 ⟨hkd, (keysOf_pickP _ _).nodup h.nodup, ?_⟩
        intro x hx y hy hxy
        subst hxy
        exact m3 x (keys_pickP x hy) (hkrp x hx)
      · intro t
        show fget (rp ++ ro) t = _ ∨ (_ ∧ (fget (rp ++ ro) t = _ ∨ ∃ qs, fget (rp ++ ro) t = _))
        rcases hkk t with hk | ⟨hk1, hk2, hk⟩
        · rw [hk]; exact hslot2 t
        · rw [hk, hgro]
          cases hc : nmem (outKeys hn.all) t && !isPtr (fget fr t) with
          | false => exact .inl (by simp)
          | true =>
            simp only [Bool.and_eq_true, Bool.not_eq_true'] at hc
            exact .inr ⟨hc.2, .inl (by simp)⟩
      · intro t cs ht
        have ht : fget (rp ++ ro) t = .box cs := ht
        rcases hkk t with hk | ⟨hk1, hk2, hk⟩
        · rw [hk] at ht; exact .inl ⟨List.mem_append_left _ (hrpbox t cs ht).1, trivial⟩
        · rw [hk, hgro] at ht
          split at ht
          · right
            refine ⟨?_, ?_, ?_⟩
            · have hs := h.slot t
              have ht' : fget (St.fr ⟨p, q, fr, m⟩) t = .box cs := ht
              rw [ht'] at hs
              refine orl hs.2.zone ?_
              rw [← hpq.1]; exact m1 t hk1
            · intro t2 cs2 ht2 hbb
              obtain ⟨g1, cs0, g2⟩ := hrpbox t2 cs2 ht2
              exact h.bb t2 t cs0 cs g2 ht (by intro he; subst he; exact m3 t2 hk1 g1) hbb
            · intro f o ho hbb
              obtain ⟨_, o0, g1, _⟩ := hmp f o ho
              exact h.bf t cs f o0 ht g1 hbb
          · cases ht
      · intro f o b ho hb
        have ho : oget (mp ++ mo) f = some o := ho
        rw [oget_append] at ho
        cases hmf : oget mp f with
        | some o1 => exact .inl ⟨List.mem_append_left _ (hmp f o1 hmf).1, trivial⟩
        | none =>
          right
          simp only [hmf] at ho
          obtain ⟨g0, o0, g1, _⟩ := hmo f o ho
          obtain ⟨I, cells, _, _, _, _, g5⟩ := (h.fam f o0 g1).row
          refine ⟨orl (g5 b hb).1 (by rw [← hpq.2]; exact m2 f g0), ?_, ?_⟩
          · intro t cs ht hbb
            obtain ⟨_, cs0, k2⟩ := hrpbox t cs ht
            exact h.bf t cs0 f o0 k2 g1 (by rw [hbb]; exact hb)
          · intro f2 o2 ho2 hbb
            obtain ⟨k0, o20, k1, _⟩ := hmp f2 o2 ho2
            have := h.ff f f2 o0 o20 b g1 k1 hb hbb
            subst this
            exact m4 f g0 k0
      · intro f o I cells b ho hp hz hI hown hb j hj
        have ho : oget (mp ++ mo) f = some o := ho
        rw [oget_append] at ho
        cases hmf : oget mp f with
        | some o1 =>
          simp only [hmf, Option.some.injEq] at ho
          subst ho
          exact hcov f o1 I cells b hmf hz hI hown hb j hj
        | none =>
          simp only [hmf] at ho
          obtain ⟨g0, _⟩ := hmo f o ho
          exfalso
          rcases List.mem_append.1 hp with hp | hp
          · exact m4 f g0 hp
          · exact m2 f g0 hp
    · refine ⟨hbase Z p q hpq.1 hpq.2 h.defers.2.2.2 (fun _ h => h) ?_ ?_ f3.zone, hZsub, hsz, fun t ht => List.mem_append_right _ (by rw [hpq.1]; exact ht), fun _ _ => rfl, fun t ht => List.mem_append_left _ (hkrp t ht), ?_, ?_, ?_, ?_, hptr, hmen⟩
      · intro t cs ht
        obtain ⟨_, cs0, g2⟩ := hrpbox t cs ht
        have hs := h.slot t
        have g2' : fget (St.fr ⟨p, q, fr, m⟩) t = .box cs0 := g2
        rw [g2'] at hs
        exact hs.2.zone
      · intro f o b ho hb
        obtain ⟨_, o0, g1, _⟩ := hmp f o ho
        obtain ⟨I, cells, _, _, _, _, g5⟩ := (h.fam f o0 g1).row
        exact (g5 b hb).1
      · intro t cs ht hz; exact hz.2.1 t cs ht rfl
      · intro f o b ho hb hz; exact hz.2.2 f o ho hb
      · intro t ht
        exact ⟨by rw [← hpq.1]; exact m1 t ht, by show t ∉ hn.prot ++ p; simp only [List.mem_append, not_or]; exact ⟨m3 t ht, m1 t ht⟩⟩
      · intro f hf
        refine ⟨by rw [← hpq.2]; exact m2 f hf, ?_⟩
        cases hmf : oget mp f with
        | none => first | exact hmf | rfl
        | some o1 => exact absurd (hmp f o1 hmf).1 (m4 f hf)
    · refine ⟨hbase Zi _ _ rfl rfl (fun _ _ => rfl) (fun t ht => List.mem_append_right _ (by rw [hpq.1]; exact ht)) ?_ ?_ hsz, fun b hb => hb, hsz, fun t ht => ht, fun _ _ => rfl, fun t ht => List.mem_append_left _ (hkrp t ht), ?_, ?_, ?_, ?_, hptr, hmen⟩
      · intro t cs ht; exact .inl ⟨List.mem_append_left _ (hrpbox t cs ht).1, trivial⟩
      · intro f o b ho hb; exact .inl ⟨List.mem_append_left _ (hmp f o ho).1, trivial⟩
      · intro t cs ht hz; exact hz.2.1 t cs ht rfl
      · intro f o b ho hb hz; exact hz.2.2 f o ho hb
      · intro t ht
        have : t ∉ hn.prot ++ p := by simp only [List.mem_append, not_or]; exact ⟨m3 t ht, m1 t ht⟩
        exact ⟨this, this⟩
      · intro f hf
        refine ⟨by show f ∉ hn.pfam ++ q; simp only [List.mem_append, not_or]; exact ⟨m4 f hf, m2 f hf⟩, ?_⟩
        cases hmf : oget mp f with
        | none => first | exact hmf | rfl
        | some o1 => exact absurd (hmp f o1 hmf).1 (m4 f hf)
theorem begin_ok {K2 : St → St → Option R} (h : Sim c Z e st a w) (hK : begin_ c hn st K2 = some r) :
    ∃ Zi e1 e2 st1 st2, Sim c Zi e1 st1 a w ∧ Trans Z.In e.φ w e1.φ w ∧ e2.φ = e1.φ ∧ e2.key = e1.key ∧ Joins c Z Zi e2 (after_ st st2) hn a w ∧ Joins c Zi Zi e2 st2 hn a w ∧ (∀ b, Zi.In b → Z.In b) ∧ outTys c hn.all = true ∧ K2 st1 st2 = some r := by
  unfold begin_ at hK
  obtain ⟨Zi, e1, e2, st1, st2, h1, t1, hφ, hk, j1, j2, hsub, hty, hK⟩ := begin_ok0 h hK
  obtain ⟨fr, g1, g2⟩ := backP_spec h (mem_fget h.nodup) h1 hK
  exact ⟨Zi, e1, e2, _, st2, g1, t1, hφ, hk, j1, j2, hsub, hty, g2⟩
end

end Dn
/-
  What a piece of code hands on. Conditions: none.
-/
set_option linter.unusedSimpArgs false
set_option linter.unusedVariables false
namespace Dn
open Go

section
variable {P : Program} {c : Ctx} {Z Zb Zi : Zone} {e e' e3 : Env} {st st' st3 B : St} {a a' : Act} {w w' : World} {R : Type} {K : St → Option R} {r : R} {Q : Exit → Act → World → Prop} {o : Oper} {hn : Hint}

/-- leaves of some families say the same in another environment -/
structure Ev (S : Nat → Prop) (e e' : Env) : Prop where
  key : e'.key = e.key
  φ : e'.φ = e.φ
  fam : ∀ f o, oget e'.m f = some o → S f → (∃ o0, oget e.m f = some o0) ∧ e'.E f = e.E f
theorem Ev.refl (S : Nat → Prop) (e : Env) : Ev S e e := ⟨rfl, rfl, fun f o h _ => ⟨⟨o, h⟩, rfl⟩⟩
theorem Ev.trans {S : Nat → Prop} {e e' e'' : Env} (h : Ev S e e') (h' : Ev S e' e'') : Ev S e e'' :=
  ⟨h'.key.trans h.key, h'.φ.trans h.φ, fun f o ho hs => by
    obtain ⟨⟨o1, g1⟩, g2⟩ := h'.fam f o ho hs
    obtain ⟨g3, g4⟩ := h.fam f o1 g1 hs
    exact ⟨g3, g2.trans g4⟩⟩
theorem Ev.weak {S S' : Nat → Prop} {e e' : Env} (h : Ev S e e') (hs : ∀ f, S' f → S f) : Ev S' e e' := ⟨h.key, h.φ, fun f o ho hf => h.fam f o ho (hs f hf)⟩
theorem LeafRep.ev {S : Nat → Prop} (h : Ev S e e') {vs : List Value} {l : Leaf} (hl : ∀ f, l = .own f → S f) (hr : LeafRep e vs l) : LeafRep e' vs l := by
  cases l with
  | own f =>
    obtain ⟨v, rfl, hv, hf⟩ := hr
    refine ⟨v, rfl, hv, fun o' ho' => ?_⟩
    obtain ⟨⟨o, ho⟩, hE⟩ := h.fam f o' ho' (hl f rfl)
    rw [hE]; exact hf o ho
  | p m => exact ⟨hr.1, by rw [h.key, h.φ]; exact hr.2⟩
  | _ => exact hr
theorem LeavesRep.ev {S : Nat → Prop} (h : Ev S e e') {cs : List Leaf} : ∀ {vs : List Value}, (∀ f, Leaf.own f ∈ cs → S f) → LeavesRep e vs cs → LeavesRep e' vs cs := by
  induction cs with
  | nil => intro vs _ hr; exact hr
  | cons l r ih =>
    intro vs hl hr
    obtain ⟨v, u, rfl, h1, h2⟩ := hr
    exact ⟨v, u, rfl, h1.ev h (fun f hf => hl f (by simp [hf])), ih (fun f hf => hl f (by simp [hf])) h2⟩
theorem ObjRep.ev {S : Nat → Prop} (h : Ev S e e') {ob : Obj} {cs : List Leaf} (hl : ∀ f, Leaf.own f ∈ cs → S f) (hr : ObjRep e ob cs) : ObjRep e' ob cs := by
  cases ob with
  | cells arr T z => exact ⟨hr.1, hr.2.ev h hl⟩
  | map es clock => exact hr
  | stringIter x pos => exact hr
  | _ => exact hr.elim
theorem SlotRep.ev {S : Nat → Prop} (h : Ev S e e') {v : Value} {s : Slot} (hp : isPtr s = false) (hl : ∀ f, Leaf.own f ∈ slotLs s → S f) (hr : SlotRep e v s) : SlotRep e' v s := by
  have hpure : EnvOn (fun _ => False) (fun _ => False) e e' := ⟨h.key, by rw [h.φ]; exact .refl _, fun _ hf => hf.elim, fun _ _ _ hf => hf.elim⟩
  cases s with
  | sc l =>
    cases l <;> first | exact hr | skip
    · exact LeafRep.ev (l := .p _) h (fun f hf => by cases hf) hr
    · rename_i f; exact LeafRep.ev (l := .own f) h (fun f hf => hl f (by simp [slotLs, hf])) hr
  | ag cs =>
    simp only [SlotRep] at hr ⊢
    obtain ⟨arr, h1, h2⟩ := hr
    exact ⟨arr, h1, h2.ev h (fun f hf => hl f hf)⟩
  | ptr => simp [isPtr] at hp
  | mref => simp [isPtr] at hp
  | rp => simp [isPtr] at hp
  | hp => simp [isPtr] at hp
  | ep => simp [isPtr] at hp
  | _ => exact hr.on hpure (by simp [slotOn])

theorem rootOK_of {fr : Fr} {s : Slot} (h : isPtr s = false) : rootOK fr s := by cases s <;> simp [isPtr] at h <;> trivial

/-- a slot of which no one spoke -/
theorem Sim.putSlot {t : Nat} {s : Slot} (h : Sim c Z e st a w) (hp : ∀ t, isPtr (fget st.fr t) = false) (hs : isPtr s = false) (hb : isBox s = false) (hr : SlotRep e (a.tmps.getD t undef) s) :
    Sim c Z e { st with fr := fsetP st.fr t s } a w := by
  have hg : ∀ t', fget (fsetP st.fr t s) t' = if t' = t then s else fget st.fr t' := fun t' => fget_fsetP _ _ _ _
  have hbox : ∀ t' cs, fget (fsetP st.fr t s) t' = .box cs → t' ≠ t ∧ fget st.fr t' = .box cs := by
    intro t' cs ht
    rw [hg] at ht
    by_cases htt : t' = t
    · rw [if_pos htt] at ht; subst ht; simp [isBox] at hb
    · rw [if_neg htt] at ht; exact ⟨htt, ht⟩
  refine ⟨h.defers, h.size, h.m, h.key, nodup_fsetP h.nodup, ?_, ?_, h.fam, ?_, ?_, h.ff, h.imm, h.zone⟩
  · intro t'
    show SlotAt Z e w t' _ (fget (fsetP st.fr t s) t')
    rw [hg]
    by_cases htt : t' = t
    · subst htt
      simp only [if_true]
      cases s <;> first | exact hr | (simp [isBox] at hb)
    · simp only [htt, if_false]; exact h.slot t'
  · intro t'
    show rootOK _ (fget (fsetP st.fr t s) t')
    rw [hg]
    by_cases htt : t' = t
    · simp only [htt, if_true]; exact rootOK_of hs
    · simp only [htt, if_false]; exact rootOK_of (hp t')
  · intro t1 t2 c1 c2 h1 h2 hne
    exact h.bb t1 t2 c1 c2 (hbox t1 c1 h1).2 (hbox t2 c2 h2).2 hne
  · intro t1 c1 f o h1 h2
    exact h.bf t1 c1 f o (hbox t1 c1 h1).2 h2

theorem Sim.putBox {t blk : Nat} {cs : List Leaf} (h : Sim c Z e st a w) (hp : ∀ t, isPtr (fget st.fr t) = false) (hv : tied Z t (a.tmps.getD t undef) cs blk) (hbx : BoxOK (Z.bz t) e w blk cs)
    (h1 : ∀ t' cs', fget st.fr t' = .box cs' → t' ≠ t → e.B t' ≠ blk) (h2 : ∀ f o, oget st.fams f = some o → (e.E f).ownBlock ≠ some blk) :
    Sim c Z (e.setB t blk) { st with fr := fsetP st.fr t (.box cs) } a w := by
  have hon : EnvOn (fun _ => True) (fun _ => False) e (e.setB t blk) := ⟨rfl, .refl _, fun r hr => hr.elim, fun f o ho _ => ⟨o, ho, rfl, rfl⟩⟩
  have hg : ∀ t', fget (fsetP st.fr t (.box cs)) t' = if t' = t then .box cs else fget st.fr t' := fun t' => fget_fsetP _ _ _ _
  refine ⟨h.defers, h.size, h.m, h.key, nodup_fsetP h.nodup, ?_, ?_, fun f o ho => (h.fam f o ho).env rfl rfl, ?_, ?_, h.ff, h.imm, h.zone⟩
  · intro t'
    show SlotAt Z _ w t' _ (fget (fsetP st.fr t (.box cs)) t')
    rw [hg]
    by_cases htt : t' = t
    · subst htt
      simp only [if_true, SlotAt, Env.setB]
      exact ⟨hv, hbx.env rfl rfl rfl rfl⟩
    · simp only [htt, if_false]
      have hs := h.slot t'
      have hp' := hp t'
      generalize fget st.fr t' = s at hs hp'
      cases s <;> simp only [SlotAt] at hs ⊢ <;> first | (simp [isPtr] at hp'; done) | exact hs.on hon (by simp [slotOn, leafOn]) | skip
      simp only [Env.setB, htt, if_false]
      exact ⟨hs.1, hs.2.env rfl rfl rfl rfl⟩
  · intro t'
    show rootOK _ (fget (fsetP st.fr t (.box cs)) t')
    rw [hg]
    by_cases htt : t' = t
    · simp only [htt, if_true]; trivial
    · simp only [htt, if_false]; exact rootOK_of (hp t')
  · intro t1 t2 c1 c2 g1 g2 hne
    have g1 : fget (fsetP st.fr t (.box cs)) t1 = .box c1 := g1
    have g2 : fget (fsetP st.fr t (.box cs)) t2 = .box c2 := g2
    rw [hg] at g1 g2
    simp only [Env.setB]
    by_cases k1 : t1 = t
    · by_cases k2 : t2 = t
      · exact absurd (k1.trans k2.symm) hne
      · rw [if_neg k2] at g2
        simp only [k1, k2, if_true, if_false]
        exact fun he => h1 t2 c2 g2 k2 he.symm
    · rw [if_neg k1] at g1
      by_cases k2 : t2 = t
      · simp only [k1, k2, if_true, if_false]
        exact h1 t1 c1 g1 k1
      · rw [if_neg k2] at g2
        simp only [k1, k2, if_false]
        exact h.bb t1 t2 c1 c2 g1 g2 hne
  · intro t1 c1 f o g1 g2
    have g1 : fget (fsetP st.fr t (.box cs)) t1 = .box c1 := g1
    rw [hg] at g1
    simp only [Env.setB]
    by_cases k1 : t1 = t
    · simp only [k1, if_true]; exact h2 f o g2
    · rw [if_neg k1] at g1
      simp only [k1, if_false]; exact h.bf t1 c1 f o g1 g2

/-- a family of which no one spoke; or one that is there, with the same row -/
def Env.addF (e : Env) (f : Nat) (v : Value) (fo : Own) : Env := { e with E := fun g => if g = f then v else e.E g, m := osetP e.m f fo }
theorem Sim.putOwn {f : Nat} {v : Value} {fo : Own} (h : Sim c Z e st a w) (hp : ∀ t, isPtr (fget st.fr t) = false) (hpf : f ∉ Z.pfam) (hfam : FamOK c Z.nc e w v fo)
    (hb : ∀ b, v.ownBlock = some b → (∀ t cs, fget st.fr t = .box cs → e.B t ≠ b) ∧ (∀ g o, g ≠ f → oget st.fams g = some o → (e.E g).ownBlock ≠ some b))
    (hev : Ev (fun g => ∃ t, Leaf.own g ∈ slotLs (fget st.fr t)) e (e.addF f v fo)) : Sim c Z (e.addF f v fo) { st with fams := osetP st.fams f fo } a w := by
  refine ⟨h.defers, h.size, by show osetP e.m f _ = osetP st.fams f _; rw [h.m], h.key, h.nodup, ?_, h.root, ?_, h.bb, ?_, ?_, h.imm, h.zone⟩
  · intro t
    have hs := h.slot t
    have hl : ∀ f, Leaf.own f ∈ slotLs (fget st.fr t) → ∃ t, Leaf.own f ∈ slotLs (fget st.fr t) := fun f hf => ⟨t, hf⟩
    have hpt := hp t
    show SlotAt Z _ w t _ (fget st.fr t)
    generalize fget st.fr t = s at hs hpt hl
    by_cases hsb : ∃ cs, s = .box cs
    · obtain ⟨cs, rfl⟩ := hsb
      simp only [SlotAt] at hs ⊢
      obtain ⟨o2, h1, h2⟩ := hs.2.obj
      exact ⟨hs.1, hs.2.zone, ⟨o2, h1, h2.ev hev hl⟩, hs.2.free⟩
    · have hs' : SlotRep e (a.tmps.getD t undef) s := by cases s <;> simp only [SlotAt] at hs <;> first | exact hs | exact absurd ⟨_, rfl⟩ hsb
      have h2 := hs'.ev hev hpt hl
      cases s <;> first | exact h2 | exact absurd ⟨_, rfl⟩ hsb
  · intro f2 o2 ho2
    have ho2 : oget (osetP st.fams f fo) f2 = some o2 := ho2
    rw [oget_osetP] at ho2
    show FamOK c (Z.fz f2) _ w (if f2 = f then v else e.E f2) o2
    by_cases hff : f2 = f
    · rw [if_pos hff]
      rw [if_pos hff] at ho2
      cases ho2
      rw [hff]
      exact (hfam.to hpf).env rfl rfl
    · rw [if_neg hff]
      rw [if_neg hff] at ho2
      exact (h.fam f2 o2 ho2).env rfl rfl
  · intro t c1 f2 o2 h1 h2
    have h2 : oget (osetP st.fams f fo) f2 = some o2 := h2
    rw [oget_osetP] at h2
    show (if f2 = f then v else e.E f2).ownBlock ≠ some (e.B t)
    by_cases hff : f2 = f
    · rw [if_pos hff]; intro hh; exact (hb _ hh).1 t c1 h1 rfl
    · rw [if_neg hff] at h2 ⊢; exact h.bf t c1 f2 o2 h1 h2
  · intro f1 f2 o1 o2 k h1 h2 h3 h4
    have h1 : oget (osetP st.fams f fo) f1 = some o1 := h1
    have h2 : oget (osetP st.fams f fo) f2 = some o2 := h2
    have h3 : (if f1 = f then v else e.E f1).ownBlock = some k := h3
    have h4 : (if f2 = f then v else e.E f2).ownBlock = some k := h4
    rw [oget_osetP] at h1 h2
    by_cases k1 : f1 = f
    · by_cases k2 : f2 = f
      · rw [k1, k2]
      · rw [if_pos k1] at h3
        rw [if_neg k2] at h4 h2
        exact absurd h4 ((hb k h3).2 f2 o2 k2 h2)
    · rw [if_neg k1] at h3 h1
      by_cases k2 : f2 = f
      · rw [if_pos k2] at h4
        exact absurd h3 ((hb k h4).2 f1 o1 k1 h1)
      · rw [if_neg k2] at h4 h2
        exact h.ff f1 f2 o1 o2 k h1 h2 h3 h4

/-- what is taken of a leaf -/
inductive TK (st : St) (ps : List (Nat × Nat)) : LK → Leaf → MV → List (Nat × Nat) → Prop
  | nilL : TK st ps (.k .l) .nil (.list []) ps
  | hs (x : Hash) : TK st ps (.k .h) (.hs x) (.h x) ps
  | p (x : Kd) (m : MV) : TK st ps (.k x) (.p m) m ps
  | own (f ty : Nat) (frz : Bool) (g : Nat) (o : Own) : oget st.fams g = some o → o.ty = ty → (o.frz = true → frz = true) → g ∉ st.pfam → pairOK ps f (g + 1) = true → TK st ps (.own f ty frz) (.own g) (.list o.xs) ((f, g + 1) :: ps)
  | ownNil (f ty : Nat) (frz : Bool) : pairOK ps f 0 = true → TK st ps (.own f ty frz) .nil (.list []) ((f, 0) :: ps)
theorem oLeaf_some {k : Kd} {m : MV} {K' : Leaf → Option R} (h : oLeaf k m K' = some r) : ∃ l, K' l = some r := by
  obtain ⟨l, _, h⟩ := oLeaf_spec (e := ⟨fun n => n, fun _ _ => none, fun _ => undef, fun _ => 0, []⟩) (vs := []) h
  exact ⟨l, h⟩
theorem takeLK_spec {ps : List (Nat × Nat)} {k : LK} {l : Leaf} {K' : MV → List (Nat × Nat) → Option R} (h : takeLK st ps k l K' = some r) : ∃ m ps', TK st ps k l m ps' ∧ K' m ps' = some r := by
  unfold takeLK at h
  split at h
  · exact ⟨_, _, .nilL, h⟩
  · exact ⟨_, _, .hs _, h⟩
  · obtain ⟨_, h⟩ := oLeaf_some h
    exact ⟨_, _, .p _ _, h⟩
  · rename_i f ty frz g
    cases ho : oget st.fams g with
    | none => simp [ho] at h
    | some o =>
      simp only [ho] at h
      cases hc : !Nat.beq o.ty ty || (o.frz && !frz) || nmem st.pfam g || !pairOK ps f (g + 1) with
      | true => simp [hc] at h
      | false =>
        simp only [hc, cond_false] at h
        simp only [Bool.or_eq_false_iff, Bool.not_eq_false'] at hc
        obtain ⟨⟨⟨h1, h2⟩, h3⟩, h4⟩ := hc
        refine ⟨_, _, .own f ty frz g o ho (Nat.eq_of_beq_eq_true h1) ?_ ?_ h4, h⟩
        · intro hz; rw [hz] at h2; simpa using h2
        · rw [← nmem_iff, h3]; simp
  · rename_i f ty frz
    cases hc : pairOK ps f 0 with
    | false => simp [hc] at h
    | true => simp only [hc, cond_true] at h; exact ⟨_, _, .ownNil f ty frz hc, h⟩
  · simp at h
theorem pairOK_spec {ps : List (Nat × Nat)} {f g : Nat} (h : pairOK ps f g = true) : (∀ b, (f, b) ∈ ps → b = g ∧ g ≠ 0) ∧ (∀ x, (x, g) ∈ ps → x ≠ f → g = 0) := by
  induction ps with
  | nil => simp
  | cons p ps ih =>
    obtain ⟨x, y⟩ := p
    simp only [pairOK, Bool.and_eq_true, nbeq] at h
    obtain ⟨h1, h2⟩ := h
    obtain ⟨i1, i2⟩ := ih h2
    refine ⟨?_, ?_⟩
    · intro b hb
      rcases List.mem_cons.1 hb with hb | hb
      · cases hb
        simp at h1
        exact ⟨h1.1, h1.2⟩
      · exact i1 b hb
    · intro z hz hne
      rcases List.mem_cons.1 hz with hz | hz
      · cases hz
        simp [hne] at h1
        exact h1
      · exact i2 z hz hne

/-- while things are handed on -/
structure Inv (c : Ctx) (Zb Zi : Zone) (e3 : Env) (st3 : St) (F : List Nat) (ps : List (Nat × Nat)) (e : Env) (st : St) (a : Act) (w : World) : Prop where
  sim : Sim c Zb e st a w
  φ : e.φ = e3.φ
  box : ∀ t cs, fget st.fr t = .box cs → ¬ Zi.In (e.B t) ∨ (e.B t = e3.B t ∧ ∃ cs3, fget st3.fr t = .box cs3)
  fam : ∀ f o b, oget st.fams f = some o → (e.E f).ownBlock = some b → ¬ Zi.In b ∨ ∃ g, (f, g + 1) ∈ ps
  pair : ∀ f g, (f, g + 1) ∈ ps → e.E f = e3.E g ∧ ∃ o3, oget st3.fams g = some o3
  has : ∀ f x, (f, x) ∈ ps → ∃ o, oget st.fams f = some o
  own : ∀ f ∈ F, ∀ o, oget st.fams f = some o → ∃ x, (f, x) ∈ ps
  ptr : ∀ t, isPtr (fget st.fr t) = false
  men : ∀ t f, Leaf.own f ∈ slotLs (fget st.fr t) → f ∉ F ∨ ∃ x, (f, x) ∈ ps

theorem leaf_give {F : List Nat} {ps ps' : List (Nat × Nat)} {k : LK} {l : Leaf} {m : MV} {vs : List Value} {K' : Leaf → St → Option R} (hi : Inv c Zb Zi e3 st3 F ps e st a w) (h3 : Sim c Zi e3 st3 a w) (hsub : ∀ b, Zi.In b → Zb.In b)
    (hF : ∀ f ∈ lkFams [k], f ∈ F ∧ f ∉ Zb.pfam) (hl : LeafRep e3 vs l) (ht : TK st3 ps k l m ps') (hK : giveLK st k m K' = some r) (hty : ∀ f ty frz, k = .own f ty frz → ∃ I, c.ti ty = some I ∧ I.comps = []) :
    ∃ e' st' l', K' l' st' = some r ∧ Inv c Zb Zi e3 st3 F ps' e' st' a w ∧ LeafRep e' vs l' ∧ st'.fr = st.fr ∧ Ev (fun f => f ∉ F ∨ ∃ x, (f, x) ∈ ps) e e' ∧ (∀ p ∈ ps, p ∈ ps') ∧ (∀ f, l' = .own f → ∃ x, (f, x) ∈ ps') ∧ e'.B = e.B ∧ l' ≠ .un := by
  have hkφ : ∀ {vs m}, Rep e3.key e3.φ vs m → Rep e.key e.φ vs m := by
    intro vs m h; rw [hi.φ, hi.sim.key, ← h3.key]; exact h
  have simple : ∀ {x : Kd} {m : MV}, Rep e3.key e3.φ vs m → (oLeaf x m fun l => K' l st) = some r →
      ∃ e' st' l', K' l' st' = some r ∧ Inv c Zb Zi e3 st3 F ps e' st' a w ∧ LeafRep e' vs l' ∧ st'.fr = st.fr ∧ Ev (fun f => f ∉ F ∨ ∃ x, (f, x) ∈ ps) e e' ∧ (∀ p ∈ ps, p ∈ ps) ∧ (∀ f, l' = .own f → ∃ x, (f, x) ∈ ps) ∧ e'.B = e.B ∧ l' ≠ .un := by
    intro x m hr hK
    obtain ⟨l', hl', hK⟩ := oLeaf_spec (e := e) (vs := vs) hK
    refine ⟨e, st, l', hK, hi, hl'.rep (hkφ hr), rfl, .refl _ _, fun p hp => hp, fun f hf => ?_, rfl, fun hu => ?_⟩
    · have := hl'.pur
      rw [hf] at this; simp [pureL] at this
    · have := hl'.pur
      rw [hu] at this; simp [pureL] at this
  cases ht with
  | nilL =>
    have hl : vs = [.slice none 0 0] := hl
    subst hl
    exact simple (x := .l) (.list none 0 [] 0 0 0 (fun _ => []) (by simp) (by simp) (by simp) (by simp) (by simp)) hK
  | hs x =>
    have hl : vs = hcells x := hl
    subst hl
    exact simple (x := .h) (.h x) hK
  | p x m => exact simple hl.2 hK
  | own f ty frz g o3 ho hoty hfz hg hpo =>
    obtain ⟨v, rfl, hv, hE⟩ := hl
    have hE := hE o3 (by rw [h3.m]; exact ho)
    obtain ⟨hfF, hfp⟩ := hF f (by simp [lkFams])
    obtain ⟨p1, p2⟩ := pairOK_spec hpo
    simp only [giveLK, gL, oset_eq] at hK
    have hgz : g ∉ Zi.pfam := by rw [← h3.defers.2.2.1]; exact hg
    obtain ⟨I, cells, q1, q2, q3, q4, q5⟩ := (h3.fam g o3 ho).row
    have hin : ∀ b, v.ownBlock = some b → Zi.In b := fun b hb => orl (q5 b (by rw [← hE]; exact hb)).1 hgz
    have hfam : FamOK c Zb.nc e w v ⟨ty, frz, o3.xs⟩ := by
      refine ⟨I, cells, by rw [← hoty]; exact q1, q2, by rw [← hoty, hE]; exact q3, by rw [hi.φ, hi.sim.key, ← h3.key]; exact q4, fun blk hb => ⟨hsub _ (hin blk hb), fun off u hu => ?_, fun hc => hc.elim⟩⟩
      rw [hi.φ] at hu
      obtain ⟨k1, k2⟩ := (q5 blk (by rw [← hE]; exact hb)).2.1 off u hu
      exact ⟨hfz k1, k2⟩
    have hold : ∀ x, (f, x) ∈ ps → e.E f = v := by
      intro x hx
      have := (p1 x hx).1
      subst this
      rw [(hi.pair f g hx).1, hE]
    have hev0 : ∀ S : Nat → Prop, (S f → ∃ x, (f, x) ∈ ps) → Ev S e (e.addF f v ⟨ty, frz, o3.xs⟩) := by
      intro S hS
      refine ⟨rfl, rfl, fun f2 o2 ho2 hs => ?_⟩
      have ho2 : oget (osetP e.m f ⟨ty, frz, o3.xs⟩) f2 = some o2 := ho2
      rw [oget_osetP] at ho2
      by_cases hff : f2 = f
      · subst hff
        obtain ⟨x, hx⟩ := hS hs
        obtain ⟨o0, h0⟩ := hi.has f2 x hx
        exact ⟨⟨o0, by rw [hi.sim.m]; exact h0⟩, by simp only [Env.addF, if_true]; exact (hold x hx).symm⟩
      · rw [if_neg hff] at ho2
        exact ⟨⟨o2, ho2⟩, by simp only [Env.addF, hff, if_false]⟩
    have hbl : ∀ b, v.ownBlock = some b → (∀ t cs, fget st.fr t = .box cs → e.B t ≠ b) ∧ (∀ g' o', g' ≠ f → oget st.fams g' = some o' → (e.E g').ownBlock ≠ some b) := by
      intro b hb
      refine ⟨fun t cs hbx hbt => ?_, fun g' o' hne hog hbg => ?_⟩
      · rcases hi.box t cs hbx with h0 | ⟨h0, cs3, h1⟩
        · exact h0 (by rw [hbt]; exact hin b hb)
        · exact h3.bf t cs3 g o3 h1 ho (by rw [← hE, ← h0, hbt]; exact hb)
      · rcases hi.fam g' o' b hog hbg with h0 | ⟨x, h0⟩
        · exact h0 (hin b hb)
        · obtain ⟨h5, o5, h6⟩ := hi.pair g' x h0
          rw [h5] at hbg
          have := h3.ff g x o3 o5 b ho h6 (by rw [← hE]; exact hb) hbg
          subst this
          have := p2 g' h0 hne
          omega
    have hsim := hi.sim.putOwn hi.ptr hfp hfam hbl (hev0 _ (fun ⟨t, hm⟩ => (hi.men t f hm).resolve_left (fun hn => hn hfF)))
    refine ⟨_, _, .own f, hK, ⟨hsim, hi.φ, hi.box, ?_, ?_, ?_, ?_, hi.ptr, ?_⟩, ?_, rfl, hev0 _ (fun hs => hs.resolve_left (fun hn => hn hfF)), fun p hp => by simp [hp], fun f' hf' => by cases hf'; exact ⟨g + 1, by simp⟩, rfl, fun hu => by cases hu⟩
    · intro f2 o2 b ho2 hb
      have ho2 : oget (osetP st.fams f ⟨ty, frz, o3.xs⟩) f2 = some o2 := ho2
      have hb : (if f2 = f then v else e.E f2).ownBlock = some b := hb
      rw [oget_osetP] at ho2
      by_cases hff : f2 = f
      · subst hff; exact .inr ⟨g, by simp⟩
      · rw [if_neg hff] at ho2 hb
        rcases hi.fam f2 o2 b ho2 hb with h0 | ⟨x, h0⟩
        · exact .inl h0
        · exact .inr ⟨x, by simp [h0]⟩
    · intro f2 g2 hp
      show (if f2 = f then v else e.E f2) = _ ∧ _
      rcases List.mem_cons.1 hp with hp2 | hp2
      · simp only [Prod.mk.injEq, Nat.add_right_cancel_iff] at hp2
        obtain ⟨rfl, rfl⟩ := hp2
        simp only [if_true]
        exact ⟨hE, o3, ho⟩
      · by_cases hff : f2 = f
        · subst hff
          have := (p1 _ hp2).1
          have : g2 = g := by omega
          subst this
          simp only [if_true]
          exact ⟨hE, o3, ho⟩
        · rw [if_neg hff]; exact hi.pair f2 g2 hp2
    · intro f2 x hp
      show ∃ o, oget (osetP st.fams f ⟨ty, frz, o3.xs⟩) f2 = some o
      rw [oget_osetP]
      by_cases hff : f2 = f
      · rw [if_pos hff]; exact ⟨_, rfl⟩
      · rw [if_neg hff]
        rcases List.mem_cons.1 hp with hp | hp
        · exact absurd (Prod.mk.inj hp).1 hff
        · exact hi.has f2 x hp
    · intro f2 hf2 o2 ho2
      have ho2 : oget (osetP st.fams f ⟨ty, frz, o3.xs⟩) f2 = some o2 := ho2
      rw [oget_osetP] at ho2
      by_cases hff : f2 = f
      · subst hff; exact ⟨g + 1, by simp⟩
      · rw [if_neg hff] at ho2
        obtain ⟨x, hx⟩ := hi.own f2 hf2 o2 ho2
        exact ⟨x, by simp [hx]⟩
    · intro t f2 hm
      rcases hi.men t f2 hm with h0 | ⟨x, hx⟩
      · exact .inl h0
      · exact .inr ⟨x, by simp [hx]⟩
    · exact ⟨v, rfl, hv, fun o' _ => by simp [Env.addF]⟩
  | ownNil f ty frz hpo =>
    have hl : vs = [.slice none 0 0] := hl
    subst hl
    obtain ⟨hfF, hfp⟩ := hF f (by simp [lkFams])
    obtain ⟨p1, _⟩ := pairOK_spec hpo
    have hno : ∀ x, (f, x) ∉ ps := fun x hx => (p1 x hx).2 rfl
    simp only [giveLK, gL, oset_eq] at hK
    obtain ⟨I, hI, hIc⟩ := hty f ty frz rfl
    have hfam : FamOK c Zb.nc e w (.slice none 0 0) ⟨ty, frz, []⟩ := ⟨I, [], hI, hIc, ⟨by simp, .inl ⟨rfl, rfl⟩⟩, rfl, fun blk hb => by simp [Value.ownBlock] at hb⟩
    have hev0 : ∀ S : Nat → Prop, (S f → False) → Ev S e (e.addF f (.slice none 0 0) ⟨ty, frz, []⟩) := by
      intro S hS
      refine ⟨rfl, rfl, fun f2 o2 ho2 hs => ?_⟩
      have ho2 : oget (osetP e.m f ⟨ty, frz, []⟩) f2 = some o2 := ho2
      rw [oget_osetP] at ho2
      by_cases hff : f2 = f
      · subst hff; exact (hS hs).elim
      · rw [if_neg hff] at ho2
        exact ⟨⟨o2, ho2⟩, by simp only [Env.addF, hff, if_false]⟩
    have hsim := hi.sim.putOwn hi.ptr hfp hfam (fun b hb => by simp [Value.ownBlock] at hb) (hev0 _ (fun ⟨t, hm⟩ => (hi.men t f hm).elim (fun hn => hn hfF) (fun ⟨x, hx⟩ => hno x hx)))
    refine ⟨_, _, .own f, hK, ⟨hsim, hi.φ, hi.box, ?_, ?_, ?_, ?_, hi.ptr, ?_⟩, ?_, rfl, hev0 _ (fun hs => hs.elim (fun hn => hn hfF) (fun ⟨x, hx⟩ => hno x hx)), fun p hp => by simp [hp], fun f' hf' => by cases hf'; exact ⟨0, by simp⟩, rfl, fun hu => by cases hu⟩
    · intro f2 o2 b ho2 hb
      have ho2 : oget (osetP st.fams f ⟨ty, frz, []⟩) f2 = some o2 := ho2
      have hb : (if f2 = f then Value.slice none 0 0 else e.E f2).ownBlock = some b := hb
      rw [oget_osetP] at ho2
      by_cases hff : f2 = f
      · rw [if_pos hff] at hb; simp [Value.ownBlock] at hb
      · rw [if_neg hff] at ho2 hb
        rcases hi.fam f2 o2 b ho2 hb with h0 | ⟨x, h0⟩
        · exact .inl h0
        · exact .inr ⟨x, by simp [h0]⟩
    · intro f2 g2 hp
      show (if f2 = f then Value.slice none 0 0 else e.E f2) = _ ∧ _
      rcases List.mem_cons.1 hp with hp2 | hp2
      · simp at hp2
      · by_cases hff : f2 = f
        · subst hff; exact absurd hp2 (hno _)
        · rw [if_neg hff]; exact hi.pair f2 g2 hp2
    · intro f2 x hp
      show ∃ o, oget (osetP st.fams f ⟨ty, frz, []⟩) f2 = some o
      rw [oget_osetP]
      by_cases hff : f2 = f
      · rw [if_pos hff]; exact ⟨_, rfl⟩
      · rw [if_neg hff]
        rcases List.mem_cons.1 hp with hp | hp
        · exact absurd (Prod.mk.inj hp).1 hff
        · exact hi.has f2 x hp
    · intro f2 hf2 o2 ho2
      have ho2 : oget (osetP st.fams f ⟨ty, frz, []⟩) f2 = some o2 := ho2
      rw [oget_osetP] at ho2
      by_cases hff : f2 = f
      · subst hff; exact ⟨0, by simp⟩
      · rw [if_neg hff] at ho2
        obtain ⟨x, hx⟩ := hi.own f2 hf2 o2 ho2
        exact ⟨x, by simp [hx]⟩
    · intro t f2 hm
      rcases hi.men t f2 hm with h0 | ⟨x, hx⟩
      · exact .inl h0
      · exact .inr ⟨x, by simp [hx]⟩
    · exact ⟨_, rfl, rfl, fun o' _ => by simp [Env.addF]⟩
end

end Dn
/-
  What a piece of code hands on: all of it. Conditions: none.
-/
set_option linter.unusedSimpArgs false
set_option linter.unusedVariables false
namespace Dn
open Go

theorem tysOK_spec {c : Ctx} {ks : List LK} (h : tysOK c ks = true) : ∀ f ty frz, LK.own f ty frz ∈ ks → ∃ I, c.ti ty = some I ∧ I.comps = [] := by
  induction ks with
  | nil => intro f ty frz hm; simp at hm
  | cons k ks ih =>
    intro f ty frz hm
    cases k with
    | k x =>
      simp only [tysOK] at h
      rcases List.mem_cons.1 hm with hm | hm
      · cases hm
      · exact ih h f ty frz hm
    | own f' ty' frz' =>
      simp only [tysOK] at h
      cases hI : c.tv ty' with
      | none => simp [hI] at h
      | some I =>
        simp only [hI] at h
        rcases List.mem_cons.1 hm with hm | hm
        · cases hm; exact ⟨I, tv_some hI⟩
        · exact ih h f ty frz hm
theorem lkFams_cons (k : LK) (ks : List LK) : lkFams (k :: ks) = lkFams [k] ++ lkFams ks := by cases k <;> simp [lkFams]

section
variable {P : Program} {c : Ctx} {Z Zb Zi : Zone} {e e' e3 : Env} {st st' st3 B : St} {a a' : Act} {w w' : World} {R : Type} {K : St → Option R} {r : R} {Q : Exit → Act → World → Prop} {o : Oper} {hn : Hint}

/-- what is taken of leaves -/
inductive TKs (st : St) : List (Nat × Nat) → List LK → List Leaf → List MV → List (Nat × Nat) → Prop
  | nil (ps) : TKs st ps [] [] [] ps
  | cons {ps ps1 ps2 k l m ks ls ms} : TK st ps k l m ps1 → TKs st ps1 ks ls ms ps2 → TKs st ps (k :: ks) (l :: ls) (m :: ms) ps2
theorem takeLKs_spec {ks : List LK} : ∀ {ps : List (Nat × Nat)} {ls : List Leaf} {K' : List MV → List (Nat × Nat) → Option R}, takeLKs st ps ks ls K' = some r → ∃ ms ps', TKs st ps ks ls ms ps' ∧ K' ms ps' = some r := by
  induction ks with
  | nil =>
    intro ps ls K' h
    cases ls with
    | nil => exact ⟨[], ps, .nil ps, h⟩
    | cons => simp [takeLKs] at h
  | cons k ks ih =>
    intro ps ls K' h
    cases ls with
    | nil => simp [takeLKs] at h
    | cons l ls =>
      simp only [takeLKs] at h
      obtain ⟨m, ps1, h1, h⟩ := takeLK_spec h
      obtain ⟨ms, ps2, h2, h⟩ := ih h
      exact ⟨m :: ms, ps2, .cons h1 h2, h⟩

theorem leaves_give {F : List Nat} {ks : List LK} : ∀ {ps ps' : List (Nat × Nat)} {ls : List Leaf} {ms rest : List MV} {vs : List Value} {e : Env} {st : St} {K' : List Leaf → List MV → St → Option R}, Inv c Zb Zi e3 st3 F ps e st a w → Sim c Zi e3 st3 a w → (∀ b, Zi.In b → Zb.In b) →
    (∀ f ∈ lkFams ks, f ∈ F ∧ f ∉ Zb.pfam) → tysOK c ks = true → LeavesRep e3 vs ls → TKs st3 ps ks ls ms ps' → giveLKs st ks (ms ++ rest) K' = some r →
    ∃ e' st' ls', K' ls' rest st' = some r ∧ Inv c Zb Zi e3 st3 F ps' e' st' a w ∧ LeavesRep e' vs ls' ∧ st'.fr = st.fr ∧ Ev (fun f => f ∉ F ∨ ∃ x, (f, x) ∈ ps) e e' ∧ (∀ p ∈ ps, p ∈ ps') ∧ (∀ f, Leaf.own f ∈ ls' → ∃ x, (f, x) ∈ ps') ∧ e'.B = e.B ∧ (∀ l ∈ ls', l ≠ .un) := by
  induction ks with
  | nil =>
    intro ps ps' ls ms rest vs e st K' hi h3 hsub hF hty hl ht hK
    cases ht
    exact ⟨e, st, [], hK, hi, hl, rfl, .refl _ _, fun p hp => hp, fun f hf => by simp at hf, rfl, by simp⟩
  | cons k ks ih =>
    intro ps ps' ls ms rest vs e st K' hi h3 hsub hF hty hl ht hK
    cases ht with
    | cons ht1 ht2 =>
      obtain ⟨v, u, rfl, hl1, hl2⟩ := hl
      simp only [giveLKs, List.cons_append, gC] at hK
      have hall := tysOK_spec hty
      obtain ⟨e1, st1, l', hK1, hi1, hr1, hfr1, hev1, hps1, hmen1, hB1, hun1⟩ := leaf_give hi h3 hsub (fun f hf => hF f (by rw [lkFams_cons]; exact List.mem_append_left _ hf)) hl1 ht1 hK (fun f ty frz hk => hall f ty frz (by rw [hk]; simp))
      have hty2 : tysOK c ks = true := by
        cases k with
        | k x => exact hty
        | own f ty frz =>
          simp only [tysOK] at hty
          cases hI : c.tv ty with
          | none => simp [hI] at hty
          | some I => simpa [hI] using hty
      obtain ⟨e2, st2, ls', hK2, hi2, hr2, hfr2, hev2, hps2, hmen2, hB2, hun2⟩ := ih hi1 h3 hsub (fun f hf => hF f (by rw [lkFams_cons]; exact List.mem_append_right _ hf)) hty2 hl2 ht2 hK1
      refine ⟨e2, st2, l' :: ls', hK2, hi2, ⟨v, u, rfl, ?_, hr2⟩, hfr2.trans hfr1, hev1.trans (hev2.weak ?_), fun p hp => hps2 p (hps1 p hp), ?_, hB2.trans hB1, by intro l hl; rcases List.mem_cons.1 hl with rfl | hl <;> first | exact hun1 | exact hun2 l hl⟩
      · exact hr1.ev hev2 (fun f hf => .inr (hmen1 f hf))
      · rintro f (hf | ⟨x, hx⟩)
        · exact .inl hf
        · exact .inr ⟨x, hps1 _ hx⟩
      · intro f hf
        rcases List.mem_cons.1 hf with hf | hf
        · obtain ⟨x, hx⟩ := hmen1 f hf.symm
          exact ⟨x, hps2 _ hx⟩
        · exact hmen2 f hf

/-- what is taken of slots -/
inductive TO (st : St) : List (Nat × Nat) → List (Nat × OK) → List MV → Prop
  | nil (ps) : TO st ps [] []
  | sc {ps ps' t k l ms r ns} : fget st.fr t = .sc l → TKs st ps [k] [l] ms ps' → TO st ps' r ns → TO st ps ((t, .sc k) :: r) (ms ++ ns)
  | ag {ps ps' t ks ls ms r ns} : fget st.fr t = .ag ls → TKs st ps ks ls ms ps' → TO st ps' r ns → TO st ps ((t, .ag ks) :: r) (ms ++ ns)
  | box {ps ps' t ks ls ms r ns} : fget st.fr t = .box ls → TKs st ps ks ls ms ps' → TO st ps' r ns → TO st ps ((t, .box ks) :: r) (ms ++ ns)
  | mp {ps t s es r ns} : fget st.fr t = .box [.mp s es] → TO st ps r ns → TO st ps ((t, .mp s) :: r) (.list es :: ns)
  | pt {ps t root off r ns} : fget st.fr t = .ptr root off → psB root = false → boxB (fget st.fr root) = true → TO st ps r ns → TO st ps ((t, .pt root off) :: r) ns
theorem takeO_spec {os : List (Nat × OK)} : ∀ {ps : List (Nat × Nat)} {R : Type} {r : R} {K' : List MV → Option R}, takeO st ps os K' = some r → ∃ ms, TO st ps os ms ∧ K' ms = some r := by
  induction os with
  | nil => intro ps R r K' h; exact ⟨[], .nil ps, h⟩
  | cons p os ih =>
    intro ps R r K' h
    obtain ⟨t, k⟩ := p
    simp only [takeO] at h
    split at h
    · rename_i k l hf
      obtain ⟨ms, ps', h1, h⟩ := takeLKs_spec h
      obtain ⟨ns, h2, h⟩ := ih h
      simp only [app_eq] at h
      exact ⟨_, .sc hf h1 h2, h⟩
    · rename_i ks ls hf
      obtain ⟨ms, ps', h1, h⟩ := takeLKs_spec h
      obtain ⟨ns, h2, h⟩ := ih h
      simp only [app_eq] at h
      exact ⟨_, .ag hf h1 h2, h⟩
    · rename_i ks ls hf
      obtain ⟨ms, ps', h1, h⟩ := takeLKs_spec h
      obtain ⟨ns, h2, h⟩ := ih h
      simp only [app_eq] at h
      exact ⟨_, .box hf h1 h2, h⟩
    · rename_i s s' es hf
      cases hm : msB s s' with
      | false => simp [hm] at h
      | true =>
        simp only [hm, cond_true] at h
        have := msB_of hm; subst this
        obtain ⟨ns, h2, h⟩ := ih h
        exact ⟨_, .mp hf h2, h⟩
    · rename_i root off root' off' hf
      cases hc : Nat.beq root root' && (Nat.beq off off' && (!psB root && boxB (fget st.fr root))) with
      | false => simp [hc] at h
      | true =>
        rw [hc] at h
        simp only [Bool.and_eq_true, Bool.not_eq_true'] at hc
        obtain ⟨k1, k2, k3, k4⟩ := hc
        have k1 := Nat.eq_of_beq_eq_true k1
        have k2 := Nat.eq_of_beq_eq_true k2
        subst k1 k2
        obtain ⟨ns, h2, h⟩ := ih h
        exact ⟨_, .pt hf k3 k4 h2, h⟩
    · simp at h
theorem pts_spec {os : List (Nat × OK)} : ∀ {ps : List (Nat × Nat)} {ms : List MV} {st : St}, Sim c Zb e st a w → Sim c Zi e3 st3 a w → TO st3 ps os ms → ptsK os ms st K = some r → ∃ st', Sim c Zb e st' a w ∧ K st' = some r := by
  induction os with
  | nil =>
    intro ps ms st h h3 ht hK
    cases ht
    exact ⟨st, h, hK⟩
  | cons p os ih =>
    obtain ⟨t, k⟩ := p
    intro ps ms st h h3 ht hK
    cases k with
    | pt root off =>
      cases ht with
      | pt hf hp hb ht2 =>
        obtain ⟨pr, q, fr, m⟩ := st
        simp only [ptsK] at hK
        cases hc : !psB root && (boxB (fget fr root) && !isBox (fget fr t)) with
        | false => simp [hc] at hK
        | true =>
          rw [hc] at hK
          simp only [Bool.and_eq_true, Bool.not_eq_true'] at hc
          obtain ⟨_, hb1, hn⟩ := hc
          simp only [cond_true, fset_eq] at hK
          obtain ⟨cs, hf1, _⟩ := boxB_spec hb1
          have hB := box_same h3 h hp hb hb1
          have hv : SlotRep e (a.tmps.getD t undef) (.ptr root off) := by
            have := h3.slot t
            rw [hf] at this
            simp only [SlotAt, SlotRep] at this ⊢
            rw [hB]; exact this
          exact ih (h.putPtr hf1 hn hv) h3 ht2 hK
    | _ => simp [ptsK] at hK

theorem outs_give {F : List Nat} {os : List (Nat × OK)} : ∀ {ps : List (Nat × Nat)} {ms : List MV} {e : Env} {st : St}, Inv c Zb Zi e3 st3 F ps e st a w → Sim c Zi e3 st3 a w → (∀ b, Zi.In b → Zb.In b) →
    (∀ f ∈ outFams os, f ∈ F ∧ f ∉ Zb.pfam) → (∀ t ∈ outKeys os, t ∉ Zi.prot) → outTys c os = true → TO st3 ps os ms → giveO st os ms K = some r →
    ∃ e' st', Sim c Zb e' st' a w ∧ e'.φ = e3.φ ∧ K st' = some r := by
  induction os with
  | nil =>
    intro ps ms e st hi h3 hsub hF hk hty ht hK
    cases ht
    exact ⟨e, st, hi.sim, hi.φ, hK⟩
  | cons p os ih =>
    intro ps ms e st hi h3 hsub hF hk hty ht hK
    obtain ⟨t, k⟩ := p
    have h3t := h3.slot t
    have next : ∀ {ps' : List (Nat × Nat)} {s : Slot} {e1 : Env} {st1 : St} {ns : List MV}, Inv c Zb Zi e3 st3 F ps' e1 st1 a w → isPtr s = false → isBox s = false → SlotRep e1 (a.tmps.getD t undef) s → (∀ f, Leaf.own f ∈ slotLs s → ∃ x, (f, x) ∈ ps') →
        (∀ f ∈ outFams os, f ∈ F ∧ f ∉ Zb.pfam) → outTys c os = true → TO st3 ps' os ns → (upFr st1 t s fun st => giveO st os ns K) = some r → ∃ e' st', Sim c Zb e' st' a w ∧ e'.φ = e3.φ ∧ K st' = some r := by
      intro ps' s e1 st1 ns hi1 hp hb hr hmen hF2 hty2 ht2 hK
      simp only [upFr, fset_eq] at hK
      have hg : ∀ t', fget (fsetP st1.fr t s) t' = if t' = t then s else fget st1.fr t' := fun t' => fget_fsetP _ _ _ _
      refine ih ⟨hi1.sim.putSlot hi1.ptr hp hb hr, hi1.φ, ?_, hi1.fam, hi1.pair, hi1.has, hi1.own, ?_, ?_⟩ h3 hsub hF2 (fun t' ht' => hk t' (by simp [outKeys, ht'])) hty2 ht2 hK
      · intro t' cs hbx
        have hbx : fget (fsetP st1.fr t s) t' = .box cs := hbx
        rw [hg] at hbx
        by_cases htt : t' = t
        · rw [if_pos htt] at hbx; subst hbx; simp [isBox] at hb
        · rw [if_neg htt] at hbx; exact hi1.box t' cs hbx
      · intro t'
        show isPtr (fget (fsetP st1.fr t s) t') = false
        rw [hg]
        by_cases htt : t' = t
        · rw [if_pos htt]; exact hp
        · rw [if_neg htt]; exact hi1.ptr t'
      · intro t' f hm
        have hm : Leaf.own f ∈ slotLs (fget (fsetP st1.fr t s) t') := hm
        rw [hg] at hm
        by_cases htt : t' = t
        · rw [if_pos htt] at hm; exact .inr (hmen f hm)
        · rw [if_neg htt] at hm; exact hi1.men t' f hm
    have nextB : ∀ {ps' : List (Nat × Nat)} {ls ls' : List Leaf} {ob : Obj} {e1 : Env} {st1 : St} {ns : List MV}, Inv c Zb Zi e3 st3 F ps' e1 st1 a w → fget st3.fr t = .box ls → tied Zb t (a.tmps.getD t undef) ls' (e3.B t) → w.heap[e3.B t]? = some ob → ObjRep e1 ob ls' →
        (∀ f, Leaf.own f ∈ ls' → ∃ x, (f, x) ∈ ps') → (∀ f ∈ outFams os, f ∈ F ∧ f ∉ Zb.pfam) → outTys c os = true → TO st3 ps' os ns → (upFr st1 t (.box ls') fun st => giveO st os ns K) = some r → ∃ e' st', Sim c Zb e' st' a w ∧ e'.φ = e3.φ ∧ K st' = some r := by
      intro ps' ls ls' ob e1 st1 ns hi1 hf hv hheap hr1 hmen1 hF2 hty2 ht2 hK1
      rw [hf] at h3t
      have hbx := h3t.2
      simp only [upFr, fset_eq] at hK1
      have htp : t ∉ Zi.prot := hk t (by simp [outKeys])
      have hin : Zi.In (e3.B t) := orl hbx.zone htp
      have hg : ∀ t', fget (fsetP st1.fr t (.box ls')) t' = if t' = t then .box ls' else fget st1.fr t' := fun t' => fget_fsetP _ _ _ _
      have hnew := hi1.sim.putBox (t := t) (blk := e3.B t) (cs := ls') hi1.ptr hv ⟨.inr (hsub _ hin), ⟨ob, hheap, hr1⟩, fun off => by rw [hi1.φ]; exact hbx.free off⟩
        (by
          intro t' cs' hb' hne hbe
          rcases hi1.box t' cs' hb' with h0 | ⟨h0, cs3, h1⟩
          · exact h0 (by rw [hbe]; exact hin)
          · exact h3.bb t' t cs3 ls h1 hf hne (by rw [← h0]; exact hbe))
        (by
          intro f o ho hbe
          rcases hi1.fam f o _ ho hbe with h0 | ⟨g, h0⟩
          · exact h0 hin
          · obtain ⟨h5, o5, h6⟩ := hi1.pair f g h0
            rw [h5] at hbe
            exact h3.bf t ls g o5 hf h6 hbe)
      refine ih (e := e1.setB t (e3.B t)) ⟨hnew, hi1.φ, ?_, hi1.fam, hi1.pair, hi1.has, hi1.own, ?_, ?_⟩ h3 hsub hF2 (fun t' ht' => hk t' (by simp [outKeys, ht'])) hty2 ht2 hK1
      · intro t' cs hb'
        have hb' : fget (fsetP st1.fr t (.box ls')) t' = .box cs := hb'
        rw [hg] at hb'
        show ¬ Zi.In (if t' = t then e3.B t else e1.B t') ∨ ((if t' = t then e3.B t else e1.B t') = e3.B t' ∧ _)
        by_cases htt : t' = t
        · subst htt; simp only [if_true]; exact .inr ⟨trivial, ls, hf⟩
        · rw [if_neg htt] at hb' ⊢; exact hi1.box t' cs hb'
      · intro t'
        show isPtr (fget (fsetP st1.fr t (.box ls')) t') = false
        rw [hg]
        by_cases htt : t' = t
        · rw [if_pos htt]; rfl
        · rw [if_neg htt]; exact hi1.ptr t'
      · intro t' f hm
        have hm : Leaf.own f ∈ slotLs (fget (fsetP st1.fr t (.box ls')) t') := hm
        rw [hg] at hm
        by_cases htt : t' = t
        · rw [if_pos htt] at hm; exact .inr (hmen1 f hm)
        · rw [if_neg htt] at hm; exact hi1.men t' f hm
    cases ht with
    | sc hf ht1 ht2 =>
      rename_i ps' k l ms ns
      rw [hf] at h3t
      simp only [outTys] at hty
      cases hty1 : tysOK c [k] with
      | false => simp [hty1] at hty
      | true =>
        simp only [hty1, cond_true] at hty
        have hF1 : ∀ f ∈ lkFams [k], f ∈ F ∧ f ∉ Zb.pfam := fun f hf => hF f (by simp only [outFams]; exact List.mem_append_left _ hf)
        have hF2 : ∀ f ∈ outFams os, f ∈ F ∧ f ∉ Zb.pfam := fun f hf => hF f (by simp only [outFams]; exact List.mem_append_right _ hf)
        simp only [giveO] at hK
        -- the cells of the slot's value
        have hcell : ∃ vs, LeafRep e3 vs l ∧ ∀ (e1 : Env) (l' : Leaf), LeafRep e1 vs l' → (∀ m, l' = .p m → m.one = true) → l' ≠ .un → SlotRep e1 (a.tmps.getD t undef) (.sc l') := by
          have h3s : SlotRep e3 (a.tmps.getD t undef) (.sc l) := h3t
          cases ht1 with
          | cons hk1 _ =>
            generalize a.tmps.getD t undef = v at h3s
            by_cases hh : ∃ x, l = .hs x
            · obtain ⟨x, rfl⟩ := hh
              refine ⟨hcells x, rfl, fun e1 l' hl' ho hu => ?_⟩
              have hv : v = .agg (hcells x).toArray := h3s
              have hlen := hcells_length x
              cases l' with
              | un => exact absurd rfl hu
              | hs y => have hl' : hcells x = hcells y := hl'; show v = _; rw [← hl']; exact hv
              | nil => have hl' : hcells x = [_] := hl'; rw [hl'] at hlen; simp at hlen
              | mp s es => exact hl'.elim
              | own f => obtain ⟨u, hu2, _⟩ := hl'; rw [hu2] at hlen; simp at hlen
              | p m =>
                obtain ⟨u, hu2, _⟩ := hl'.2.one (ho m rfl)
                rw [hu2] at hlen; simp at hlen
            · have hun : l ≠ .un := by intro he; subst he; cases hk1
              have hrep : LeafRep e3 [v] l := (SlotRep.sc_iff (fun x he => hh ⟨x, he⟩) hun).1 h3s
              refine ⟨[v], hrep, fun e1 l' hl' ho hu => ?_⟩
              cases l' with
              | un => exact absurd rfl hu
              | hs y =>
                have hl' : [v] = hcells y := hl'
                have := hcells_length y
                rw [← hl'] at this; simp at this
              | nil => exact hl'
              | mp s es => exact hl'
              | own f => exact hl'
              | p m => exact hl'
        obtain ⟨vs, hlv, hback⟩ := hcell
        obtain ⟨e1, st1, ls', hK1, hi1, hr1, hfr1, hev1, hps1, hmen1, hB1, hun1⟩ := leaves_give (vs := vs) hi h3 hsub hF1 hty1 (show LeavesRep e3 vs [l] from ⟨vs, [], by simp, hlv, rfl⟩) ht1 hK
        split at hK1
        · rename_i l'
          obtain ⟨v1, u1, hvu, hl1, hu1⟩ := hr1
          have hu1 : u1 = [] := hu1
          subst hu1
          have hvu : vs = v1 := by simpa using hvu
          subst hvu
          refine next hi1 rfl rfl ?_ (fun f hf => hmen1 f (by simpa [slotLs] using hf)) hF2 hty ht2 hK1
          refine hback e1 l' hl1 ?_ ?_
          · intro m hm; subst hm; exact hl1.1
          · exact hun1 l' (by simp)
        · cases hK1
    | ag hf ht1 ht2 =>
      rename_i ps' ks ls ms ns
      rw [hf] at h3t
      simp only [outTys] at hty
      cases hty1 : tysOK c ks with
      | false => simp [hty1] at hty
      | true =>
        simp only [hty1, cond_true] at hty
        simp only [giveO] at hK
        have h3s : SlotRep e3 (a.tmps.getD t undef) (.ag ls) := h3t
        simp only [SlotRep] at h3s
        obtain ⟨arr, hv, hlv⟩ := h3s
        obtain ⟨e1, st1, ls', hK1, hi1, hr1, hfr1, hev1, hps1, hmen1, hB1, hun1⟩ := leaves_give hi h3 hsub (fun f hf => hF f (by simp only [outFams]; exact List.mem_append_left _ hf)) hty1 hlv ht1 hK
        exact next (s := .ag ls') hi1 rfl rfl ⟨arr, hv, hr1⟩ hmen1 (fun f hf => hF f (by simp only [outFams]; exact List.mem_append_right _ hf)) hty ht2 hK1
    | box hf ht1 ht2 =>
      rename_i ps' ks ls ms ns
      rw [hf] at h3t
      simp only [outTys] at hty
      cases hty1 : tysOK c ks with
      | false => simp [hty1] at hty
      | true =>
        simp only [hty1, cond_true] at hty
        simp only [giveO] at hK
        have hm0 : isMp ls = false := by
          cases hm : isMp ls with
          | false => rfl
          | true =>
            obtain ⟨s, es, rfl⟩ := isMp_mp hm
            cases ht1
            rename_i h1 _
            cases h1
        obtain ⟨hv, hbx⟩ := h3t
        cases hps : psB t && !nmem st.prot (posOf t) with
        | true => simp [hps] at hK
        | false =>
        simp only [hps, cond_false] at hK
        have hti : ∀ ls', isMp ls' = false → tied Zb t (a.tmps.getD t undef) ls' (e3.B t) := fun ls' hm' => ⟨fun hp => by rw [hv.1 hp, bptr_p hm0, bptr_p hm'], fun hp => by
          obtain ⟨k1, k2⟩ := hv.2 hp
          rw [hp] at hps
          have k3 : posOf t ∈ Zb.prot := by
            rw [← hi.sim.defers.2.1, ← nmem_iff]; simpa using hps
          exact ⟨k3, by rw [← hi.sim.defers.2.2.2 _ k3, h3.defers.2.2.2 _ k1, k2]⟩⟩
        obtain ⟨arr, T, hheap, hlv⟩ := hbx.cells hm0
        obtain ⟨e1, st1, ls', hK1, hi1, hr1, hfr1, hev1, hps1, hmen1, hB1, hun1⟩ := leaves_give hi h3 hsub (fun f hf => hF f (by simp only [outFams]; exact List.mem_append_left _ hf)) hty1 hlv ht1 hK
        exact nextB hi1 hf (hti _ hr1.notMp) hheap ⟨rfl, hr1⟩ hmen1 (fun f hf => hF f (by simp only [outFams]; exact List.mem_append_right _ hf)) hty ht2 hK1
    | mp hf ht2 =>
      rename_i s es ns
      rw [hf] at h3t
      simp only [outTys] at hty
      simp only [giveO] at hK
      cases hps : psB t with
      | true => simp [hps] at hK
      | false =>
      simp only [hps, cond_false, gC, gL] at hK
      obtain ⟨hv0, hbx⟩ := h3t
      have hv : tied Zb t (a.tmps.getD t undef) [Leaf.mp s es] (e3.B t) := .own hps (hv0.1 hps)
      obtain ⟨ob, hheap, hob⟩ := hbx.obj
      cases ob with
      | cells arr T z => exact absurd hob.2.notMp (by simp [isMp])
      | map arr n => exact nextB hi hf hv hheap hob (fun f hf => by simp at hf) (fun f hf => hF f (by simp only [outFams]; exact hf)) hty ht2 hK
      | stringIter x n => exact nextB hi hf hv hheap hob (fun f hf => by simp at hf) (fun f hf => hF f (by simp only [outFams]; exact hf)) hty ht2 hK
      | _ => exact hob.elim
    | pt hf hp hb ht2 =>
      simp only [giveO] at hK
      obtain ⟨st', g1, g2⟩ := pts_spec hi.sim h3 (.pt hf hp hb ht2) hK
      exact ⟨e, st', g1, hi.φ, g2⟩

/-- behind a piece of code: what was ahead of it, and what it hands on -/
theorem give_ok {os : List (Nat × OK)} {ms : List MV} (hJ : Joins c Zb Zi e B hn a w) (h3 : Sim c Zi e3 st3 a w) (hφ : e3.φ = e.φ) (hos : (∀ t ∈ outKeys os, t ∈ outKeys hn.all) ∧ (∀ f ∈ outFams os, f ∈ outFams hn.all)) (hty : outTys c os = true)
    (ht : TO st3 [] os ms) (hK : giveO B os ms K = some r) : ∃ e' st', Sim c Zb e' st' a w ∧ e'.φ = e.φ ∧ K st' = some r := by
  rw [← hφ]
  refine outs_give (F := outFams hn.all) ⟨hJ.sim, hφ.symm, fun t cs hb => .inl (hJ.box t cs hb), fun f o b ho hb => .inl (hJ.fam f o b ho hb), fun f g hp => by simp at hp, fun f x hp => by simp at hp, ?_, hJ.ptr, fun t f hm => .inl (hJ.men t f hm)⟩ h3 hJ.sub ?_ ?_ hty ht hK
  · intro f hf o ho
    rw [(hJ.outF f hf).2] at ho; cases ho
  · intro f hf; exact ⟨hos.2 f hf, (hJ.outF f (hos.2 f hf)).1⟩
  · intro t ht'; exact (hJ.outK t (hos.1 t ht')).2
end

end Dn
/-
  Code. Conditions: none.
-/
set_option linter.unusedSimpArgs false
set_option linter.unusedVariables false
namespace Dn
open Go

theorem mem_outKeys {os : List (Nat × OK)} {t : Nat} : t ∈ outKeys os ↔ ∃ k, (t, k) ∈ os := by
  induction os with
  | nil => simp [outKeys]
  | cons p os ih =>
    obtain ⟨t', k'⟩ := p
    simp only [outKeys, List.mem_cons, ih, Prod.mk.injEq]
    constructor
    · rintro (rfl | ⟨k, h⟩)
      · exact ⟨k', .inl ⟨rfl, rfl⟩⟩
      · exact ⟨k, .inr h⟩
    · rintro ⟨k, ⟨rfl, _⟩ | h⟩
      · exact .inl rfl
      · exact .inr ⟨k, h⟩
def okFams : OK → List Nat
  | .sc k => lkFams [k]
  | .ag ks => lkFams ks
  | .box ks => lkFams ks
  | .mp _ => []
  | .pt _ _ => []
theorem outFams_cons (t : Nat) (k : OK) (os : List (Nat × OK)) : outFams ((t, k) :: os) = okFams k ++ outFams os := by cases k <;> rfl
theorem mem_outFams {os : List (Nat × OK)} {f : Nat} : f ∈ outFams os ↔ ∃ p ∈ os, f ∈ okFams p.2 := by
  induction os with
  | nil => simp [outFams]
  | cons p os ih =>
    obtain ⟨t', k'⟩ := p
    rw [outFams_cons]
    simp [ih]
def okTys (c : Ctx) : OK → Bool
  | .sc k => tysOK c [k]
  | .ag ks => tysOK c ks
  | .box ks => tysOK c ks
  | .mp _ => true
  | .pt _ _ => true
theorem outTys_cons {c : Ctx} (t : Nat) (k : OK) (os : List (Nat × OK)) : outTys c ((t, k) :: os) = (okTys c k && outTys c os) := by
  cases k with
  | sc k => simp only [outTys, okTys]; cases tysOK c [k] <;> rfl
  | ag k => simp only [outTys, okTys]; cases tysOK c k <;> rfl
  | box k => simp only [outTys, okTys]; cases tysOK c k <;> rfl
  | mp s => simp only [outTys, okTys, Bool.true_and]
  | pt r o => simp only [outTys, okTys, Bool.true_and]
theorem outTys_iff {c : Ctx} {os : List (Nat × OK)} : outTys c os = true ↔ ∀ p ∈ os, okTys c p.2 = true := by
  induction os with
  | nil => simp [outTys]
  | cons p os ih =>
    obtain ⟨t', k'⟩ := p
    rw [outTys_cons, Bool.and_eq_true, ih, List.forall_mem_cons]
theorem mem_exOf {l : List (Nat × List (Nat × OK))} {e : Nat} {p : Nat × OK} (h : p ∈ exOf l e) : p ∈ allEx l := by
  induction l with
  | nil => simp [exOf] at h
  | cons q l ih =>
    obtain ⟨k, m⟩ := q
    simp only [exOf] at h
    simp only [allEx, List.mem_append]
    cases hb : Nat.beq k e with
    | true => simp [hb] at h; exact .inl h
    | false => simp [hb] at h; exact .inr (ih h)
theorem ex_sub {hn : Hint} {e : Nat} : (∀ t ∈ outKeys (hn.ex e), t ∈ outKeys hn.all) ∧ (∀ f ∈ outFams (hn.ex e), f ∈ outFams hn.all) ∧ ∀ {c : Ctx}, outTys c hn.all = true → outTys c (hn.ex e) = true := by
  have hm : ∀ p ∈ hn.ex e, p ∈ hn.all := fun p hp => List.mem_append_right _ (mem_exOf hp)
  refine ⟨fun t ht => ?_, fun f hf => ?_, fun h => ?_⟩
  · obtain ⟨k, hk⟩ := mem_outKeys.1 ht; exact mem_outKeys.2 ⟨k, hm _ hk⟩
  · obtain ⟨p, hp, hf⟩ := mem_outFams.1 hf; exact mem_outFams.2 ⟨p, hm _ hp, hf⟩
  · rw [outTys_iff] at h ⊢; exact fun p hp => h p (hm p hp)
theorem outs_sub {hn : Hint} : (∀ t ∈ outKeys hn.outs, t ∈ outKeys hn.all) ∧ (∀ f ∈ outFams hn.outs, f ∈ outFams hn.all) ∧ ∀ {c : Ctx}, outTys c hn.all = true → outTys c hn.outs = true := by
  have hm : ∀ p ∈ hn.outs, p ∈ hn.all := fun p hp => List.mem_append_left _ hp
  refine ⟨fun t ht => ?_, fun f hf => ?_, fun h => ?_⟩
  · obtain ⟨k, hk⟩ := mem_outKeys.1 ht; exact mem_outKeys.2 ⟨k, hm _ hk⟩
  · obtain ⟨p, hp, hf⟩ := mem_outFams.1 hf; exact mem_outFams.2 ⟨p, hm _ hp, hf⟩
  · rw [outTys_iff] at h ⊢; exact fun p hp => h p (hm p hp)
theorem exs_some {R : Type} {r : R} {l : List Nat} {e : Nat} {K : Nat → Option R} (h : exs l e K = some r) : K e = some r := by
  induction l with
  | nil => simp [exs] at h
  | cons p l ih =>
    cases l with
    | nil =>
      simp only [exs, nbeq] at h
      by_cases he : e = p
      · subst he; simpa using h
      · simp [he] at h
    | cons q l =>
      simp only [exs, nbeq] at h
      by_cases he : e = p
      · subst he; simpa using h
      · simp only [he, decide_false, cond_false] at h; exact ih h
theorem loop_some {σ R : Type} {r : R} {body : σ → Option (Sum σ R)} {s : σ} (h : Loop body s = some r) : ∃ n, iter body n s = some r := by
  unfold Loop at h
  split at h
  · rename_i hx
    obtain ⟨n, hn⟩ := Classical.choose_spec hx
    exact ⟨n, by rw [hn]; exact h⟩
  · cases h

/-- how code is left -/
def exitOf : Nat → Exit
  | 0 => .normal
  | 1 => .ret
  | n + 2 => .exit n

section
variable {P : Program} {c : Ctx} {Z Zb Zi : Zone} {e e' e3 : Env} {st st' st3 B : St} {a a' : Act} {w w' : World} {R : Type} {r : R} {Q : Exit → Act → World → Prop} {o : Oper} {hn : Hint}

/-- operations in an order that says how a region runs -/
def RunsOps (P : Program) (c : Ctx) (id : Nat) (ops : Array Oper) (d : Bool) (l : List Oper) : Prop :=
  ∀ {Z : Zone} {e : Env} {st : St} {a : Act} {w : World} {R : Type} {K : St → Option R} {r : R} {Q : Exit → Act → World → Prop}, Sim c Z e st a w → opsK c ops.toList l st K = some r →
    (∀ a' w', Out c Z K r e.φ w a' w' → Q .normal a' w') → (Code.region id ops d).wp P Q a w

theorem runs_text (hG : Good P c) (id : Nat) (ops : Array Oper) : RunsOps P c id ops false ops.toList := by
  intro Z e st a w R K r Q h hK hQ
  refine wp_region (ops_ok hG (os := ops.toList) ?_ h hK (.refl _ _ _) hQ)
  apply List.ext_getElem?
  intro i
  simp only [List.getElem?_map]
  by_cases hi : i < ops.size
  · simp [List.getElem?_range hi, hi]
  · have h1 : (List.range ops.size)[i]? = none := by simp; omega
    have h2 : ops.toList[i]? = none := by simp; omega
    rw [h1, h2]; rfl

theorem region_ok {id : Nat} {ops : Array Oper} {d : Bool} {l : List Oper} {K : St → Option R} (hr : RunsOps P c id ops d l) (h : Sim c Z e st a w) (hK : regionL c id ops.toList l st K = some r)
    (hQ : ∀ a' w', Out c Z K r e.φ w a' w' → Q .normal a' w') : (Code.region id ops d).wp P Q a w := by
  unfold regionL at hK
  cases hg : guarded ops.toList with
  | false =>
    simp only [hg, cond_false] at hK
    obtain ⟨st', h', hK⟩ := dropSt_spec h hK
    exact hr h' hK hQ
  | true =>
    simp only [hg, cond_true] at hK
    obtain ⟨Zi, e1, e2, st1, st2, h1, t1, hφ, hk, j1, j2, hsub, hty, hK⟩ := begin_ok h hK
    obtain ⟨vs, hv, hK⟩ := bd_some hK
    obtain ⟨st1', h1', hv⟩ := dropSt_spec h1 hv
    refine hr h1' hv ?_
    rintro a' w' ⟨e3, st3, h3, t3, hv3⟩
    obtain ⟨ms, ht, hms⟩ := takeO_spec hv3
    cases hms
    have t3' : Trans Zi.In e2.φ w e3.φ w' := by rw [hφ]; exact t3
    have jl := j1.later t3' h3.imm h3.defers.1 h3.size h3.defers.2.2.2
    obtain ⟨s1, s2, s3⟩ := ex_sub (hn := c.reg id) (e := 0)
    obtain ⟨e5, st5, g1, g2, g3⟩ := give_ok jl h3 rfl ⟨s1, s2⟩ (s3 hty) ht hK
    refine hQ a' w' ⟨e5, st5, g1, ?_, g3⟩
    rw [g2]
    exact t1.trans ⟨t3.ph, fun b hb => t3.heap b (fun hz => hb (hsub b hz)), fun b o hb => t3.free b o (fun hz => hb (hsub b hz)), t3.size, t3.rest⟩

theorem Trans.sup {I J : Nat → Prop} {φ φ' : Ph} (h : Trans I φ w φ' w') (hs : ∀ b, I b → J b) : Trans J φ w φ' w' :=
  ⟨h.ph, fun b hb => h.heap b (fun hz => hb (hs b hz)), fun b o hb => h.free b o (fun hz => hb (hs b hz)), h.size, h.rest⟩

theorem then_exit {n : Nat} {next : Act → World → Prop} (hn : n ≠ 0) : Exit.then next Q (exitOf n) = Q (exitOf n) := by
  match n, hn with
  | 1, _ => rfl
  | n + 2, _ => rfl

/-- a region in the order of its text -/
def RunsText (P : Program) (c : Ctx) (id : Nat) (ops : Array Oper) : Prop :=
  ∀ {Z : Zone} {e : Env} {st : St} {a : Act} {w : World} {R : Type} {K : St → Option R} {r : R} {Q : Exit → Act → World → Prop}, Sim c Z e st a w → textK c id ops.toList st K = some r →
    (∀ a' w', Out c Z K r e.φ w a' w' → Q .normal a' w') → (Code.region id ops false).wp P Q a w
/-- draws: any order -/
def Draws (P : Program) (c : Ctx) : Prop := (∀ (id : Nat) (ops : Array Oper), RunsText P c id ops) ∧ (∀ (id : Nat) (ops : Array Oper) (l : List Oper), drawOK c ops (c.ord id) = true → pickOps ops.toList (c.ord id) = some l → RunsOps P c id ops true l) ∧
  ∀ (id : Nat) (ops : Array Oper) (k : Nat) (l : List Nat) {Z : Zone} {e : Env} {st : St} {a : Act} {w : World} {R : Type} {K : St → Option R} {r : R} {Q : Exit → Act → World → Prop}, Sim c Z e st a w → treeK c st K k ops l = some r →
      (∀ a' w', Out c Z K r e.φ w a' w' → Q .normal a' w') → (Code.region id ops true).wp P Q a w
theorem both_some {R : Type} {x y : Option R} {r : R} (h : both x y = some r) : x = some r ∧ y = some r := by
  unfold both at h
  split at h
  · rename_i he; exact ⟨h, by rw [← he]; exact h⟩
  · cases h
theorem twoOf_spec {n : Nat} {l o1 o2 : List Nat} {A B : Nat} (h : twoOf n l = some (o1, o2, A, B)) : A ≠ B ∧ A < n ∧ B < n := by
  unfold twoOf at h
  split at h
  · rename_i A' B' _
    cases hb : Nat.beq A' B' || (Nat.ble n A' || Nat.ble n B') with
    | true => rw [hb] at h; cases h
    | false =>
      rw [hb] at h
      simp only [cond_false, Option.some.injEq, Prod.mk.injEq] at h
      obtain ⟨_, _, rfl, rfl⟩ := h
      simp only [Bool.or_eq_false_iff] at hb
      obtain ⟨h1, h2, h3⟩ := hb
      refine ⟨fun he => ?_, ?_, ?_⟩
      · rw [he] at h1; simp [nbeq] at h1
      · by_cases hh : A' < n
        · exact hh
        · rw [Nat.ble_eq_true_of_le (by omega)] at h2; cases h2
      · by_cases hh : B' < n
        · exact hh
        · rw [Nat.ble_eq_true_of_le (by omega)] at h3; cases h3
  · cases h

theorem fzK_ok {ts : List Nat} {K : St → Option R} (h : Sim c Z e st a w) (hK : fzK c ts st K = some r) : ∃ e' st', Sim c Z e' st' a w ∧ Trans Z.In e.φ w e'.φ w ∧ K st' = some r := by
  unfold fzK at hK
  split at hK
  · exact ⟨e, st, h, .refl _ _ _, hK⟩
  · obtain ⟨e', st', ms, h1, h2, _, h3, _⟩ := capsK_spec h hK
    exact ⟨e', st', h1, h2.tr, h3⟩
theorem code_ok (hG : Good P c) (hD : Draws P c) : ∀ (code : Code) {R : Type} {r : R} {Z : Zone} {e : Env} {st : St} {a : Act} {w : World} {K : Nat → St → Option R} {Q : Exit → Act → World → Prop}, Sim c Z e st a w → codeK c code R st K = some r →
    (∀ n e' st' a' w', Sim c Z e' st' a' w' → Trans Z.In e.φ w e'.φ w' → K n st' = some r → Q (exitOf n) a' w') → code.wp P Q a w := by
  intro code
  induction code with
  | skip => intro R r Z e st a w K Q h hK hQ; exact wp_skip (hQ 0 e st a w h (.refl _ _ _) hK)
  | exit id => intro R r Z e st a w K Q h hK hQ; exact wp_exit (hQ (id + 2) e st a w h (.refl _ _ _) hK)
  | ret => intro R r Z e st a w K Q h hK hQ; exact wp_ret (hQ 1 e st a w h (.refl _ _ _) hK)
  | region id ops d =>
    intro R r Z e st a w K Q h hK hQ
    have hend : ∀ a' w', Out c Z (fun st => K 0 st) r e.φ w a' w' → Q .normal a' w' := by
      rintro a' w' ⟨e2, st2, h1, h2, h3⟩
      exact hQ 0 e2 st2 a' w' h1 h2 h3
    simp only [codeK, regionK] at hK
    obtain ⟨e0, st0, h0, t0, hK⟩ := fzK_ok h hK
    have hend : ∀ a' w', Out c Z (fun st => K 0 st) r e0.φ w a' w' → Q .normal a' w' := by
      rintro a' w' ⟨e2, st2, h1, h2, h3⟩
      exact hend a' w' ⟨e2, st2, h1, t0.trans h2, h3⟩
    replace h := h0
    cases d with
    | false => exact hD.1 id ops h hK hend
    | true =>
      simp only [cond_true] at hK
      cases h2 : !Nat.beq (c.ord id).length ops.toList.length with
      | true =>
        simp only [h2, cond_true] at hK
        unfold twoK at hK
        cases hg : guarded ops.toList with
        | true => simp [hg] at hK
        | false =>
          simp only [hg, cond_false] at hK
          obtain ⟨st', h', hK⟩ := dropSt_spec h hK
          exact hD.2.2 id ops _ _ h' hK hend
      | false =>
      simp only [h2, cond_false] at hK
      cases hd : drawOK c ops (c.ord id) with
      | false => simp [hd] at hK
      | true =>
        simp only [hd, cond_true] at hK
        cases hp : pickOps ops.toList (c.ord id) with
        | none => simp [hp] at hK
        | some l =>
          simp only [hp] at hK
          exact region_ok (hD.2.1 id ops l hd hp) h hK hend
  | seq x y ihx ihy =>
    intro R r Z e st a w K Q h hK hQ
    refine wp_seq (ihx h hK ?_)
    intro n e1 st1 a1 w1 h1 t1 hK1
    by_cases hn : n = 0
    · subst hn
      exact ihy h1 hK1 (fun n e2 st2 a2 w2 h2 t2 hK2 => hQ n e2 st2 a2 w2 h2 (t1.trans t2) hK2)
    · rw [then_exit hn]
      have : Nat.beq n 0 = false := by rw [nbeq]; simp [hn]
      simp only [this, cond_false] at hK1
      exact hQ n e1 st1 a1 w1 h1 t1 hK1
  | cond x y z ihy ihz =>
    intro R r Z e st a w K Q h hK hQ
    simp only [codeK] at hK
    obtain ⟨hx, _⟩ := h.eval x
    split at hK
    · rename_i v hv
      rw [hv] at hx
      have hxv := rep_b hx
      refine wp_cond hxv ?_
      cases hj : nmem (exitsC y) 0 && nmem (exitsC z) 0 with
      | false =>
        simp only [hj, cond_false] at hK
        cases v with
        | true => exact ihy h hK hQ
        | false => exact ihz h hK hQ
      | true =>
        simp only [hj, cond_true] at hK
        generalize hh : c.cnd ((firstReg (.seq y z)).getD 0) = hn at hK
        obtain ⟨Zi, e1, e2, st1, st2, h1, t1, hφ, hk, j1, j2, hsub, hty, hK⟩ := begin_ok h hK
        obtain ⟨⟨n, vs⟩, hv, hK⟩ := bd_some hK
        have hK := exs_some hK
        have fin : ∀ n' e3 st3 a3 w3, Sim c Zi e3 st3 a3 w3 → Trans Zi.In e1.φ w e3.φ w3 → takeO st3 [] (hn.ex n') (fun vs => some (n', vs)) = some (n, vs) → Q (exitOf n') a3 w3 := by
          intro n' e3 st3 a3 w3 h3 t3 hv3
          obtain ⟨ms, ht, hms⟩ := takeO_spec hv3
          cases hms
          have t3' : Trans Zi.In e2.φ w e3.φ w3 := by rw [hφ]; exact t3
          have jl := j1.later t3' h3.imm h3.defers.1 h3.size h3.defers.2.2.2
          obtain ⟨s1, s2, s3⟩ := ex_sub (hn := hn) (e := n)
          obtain ⟨e5, st5, g1, g2, g3⟩ := give_ok jl h3 rfl ⟨s1, s2⟩ (s3 hty) ht hK
          refine hQ n e5 st5 a3 w3 g1 ?_ g3
          rw [g2]
          exact t1.trans (t3.sup hsub)
        cases v with
        | true => exact ihy h1 hv fin
        | false => exact ihz h1 hv fin
    · simp at hK
  | block id b ih =>
    intro R r Z e st a w K Q h hK hQ
    refine wp_block (ih h hK ?_)
    intro n e1 st1 a1 w1 h1 t1 hK1
    by_cases hn : n = id + 2
    · subst hn
      simp only [nbeq, decide_true, cond_true] at hK1
      have := hQ 0 e1 st1 a1 w1 h1 t1 hK1
      simpa [exitOf, Exit.inBlock] using this
    · simp only [nbeq, hn, decide_false, cond_false] at hK1
      have := hQ n e1 st1 a1 w1 h1 t1 hK1
      match n, hn, this with
      | 0, _, this => exact this
      | 1, _, this => exact this
      | i + 2, hn, this =>
        have hi : i ≠ id := fun he => hn (by rw [he])
        simpa [exitOf, Exit.inBlock, hi] using this
  | loop b ih =>
    intro R r Z e st a w K Q h hK hQ
    simp only [codeK] at hK
    generalize hh : c.lop ((firstReg b).getD 0) = hn at hK
    obtain ⟨Zi, e1, e2, st1, st2, h1, t1, hφ, hk, j1, j2, hsub, hty, hK⟩ := begin_ok h hK
    obtain ⟨vs, ht, hK⟩ := takeO_spec hK
    obtain ⟨⟨n, ms⟩, hl, hK⟩ := bd_some hK
    obtain ⟨k, hk2⟩ := loop_some hl
    have hK := exs_some hK
    refine wp_loop_rounds k ?_
    have key : ∀ (k : Nat) (vs : List MV) (e2 e3 : Env) (st3 : St) (a3 : Act) (w3 : World), Sim c Zi e3 st3 a3 w3 → e3.φ = e2.φ → TO st3 [] hn.outs vs → Joins c Z Zi e2 (after_ st st2) hn a3 w3 → Joins c Zi Zi e2 st2 hn a3 w3 → Trans Z.In e.φ w e2.φ w3 →
        iter (fun ms => giveO st2 hn.outs ms fun st => codeK c b (Sum (List MV) (Nat × List MV)) st fun e st =>
          bif Nat.beq e 0 then takeO st [] hn.outs fun vs => some (.inl vs) else takeO st [] (hn.ex e) fun vs => some (.inr (e, vs))) k vs = some (n, ms) → Code.rounds P b Q k a3 w3 := by
      intro k
      induction k with
      | zero => intro vs e2 e3 st3 a3 w3 _ _ _ _ _ _ hi; simp [iter] at hi
      | succ k ihk =>
        intro vs e2 e3 st3 a3 w3 h3 hφ3 ht3 j1 j2 t3 hi
        simp only [iter] at hi
        obtain ⟨s1, s2, s3⟩ := outs_sub (hn := hn)
        rw [rounds_succ]
        -- whatever the round comes to
        have go : ∀ (res : Sum (List MV) (Nat × List MV)), (giveO st2 hn.outs vs fun st => codeK c b (Sum (List MV) (Nat × List MV)) st fun e st =>
            bif Nat.beq e 0 then takeO st [] hn.outs fun vs => some (.inl vs) else takeO st [] (hn.ex e) fun vs => some (.inr (e, vs))) = some res →
            (∀ vs', res = .inl vs' → iter (fun ms => giveO st2 hn.outs ms fun st => codeK c b (Sum (List MV) (Nat × List MV)) st fun e st =>
              bif Nat.beq e 0 then takeO st [] hn.outs fun vs => some (.inl vs) else takeO st [] (hn.ex e) fun vs => some (.inr (e, vs))) k vs' = some (n, ms)) →
            (∀ q, res = .inr q → q = (n, ms)) → b.wp P (Exit.then (Code.rounds P b Q k) Q) a3 w3 := by
          intro res hres hl hr
          obtain ⟨e5, st5, g1, g2, g3⟩ := give_ok j2 h3 hφ3 ⟨s1, s2⟩ (s3 hty) ht3 hres
          refine ih g1 g3 ?_
          intro n' e6 st6 a6 w6 h6 t6 hK6
          have t6' : Trans Zi.In e2.φ w3 e6.φ w6 := by rw [← g2]; exact t6
          have jl1 := j1.later t6' h6.imm h6.defers.1 h6.size h6.defers.2.2.2
          have jl2 := j2.later t6' h6.imm h6.defers.1 h6.size h6.defers.2.2.2
          by_cases hn0 : n' = 0
          · subst hn0
            obtain ⟨vs', ht6, hv6⟩ := takeO_spec hK6
            cases hv6
            exact ihk vs' { e2 with φ := e6.φ } e6 st6 a6 w6 h6 rfl ht6 jl1 jl2 (t3.trans (t6'.sup hsub)) (hl vs' rfl)
          · rw [then_exit hn0]
            have : Nat.beq n' 0 = false := by rw [nbeq]; simp [hn0]
            simp only [this, cond_false] at hK6
            obtain ⟨vs', ht6, hv6⟩ := takeO_spec hK6
            cases hv6
            cases hr _ rfl
            obtain ⟨x1, x2, x3⟩ := ex_sub (hn := hn) (e := n)
            obtain ⟨e7, st7, q1, q2, q3⟩ := give_ok jl1 h6 rfl ⟨x1, x2⟩ (x3 hty) ht6 hK
            refine hQ n e7 st7 a6 w6 q1 ?_ q3
            rw [q2]
            exact t3.trans (t6'.sup hsub)
        split at hi
        · rename_i s' hs
          exact go _ hs (fun vs' he => by cases he; exact hi) (fun q he => by cases he)
        · rename_i q hs
          cases hi
          exact go _ hs (fun vs' he => by cases he) (fun q he => by cases he; rfl)
        · cases hi
    refine key k vs e2 e1 st1 a w h1 hφ.symm ht j1 j2 ?_ hk2
    rw [hφ]; exact t1
  | _ => intros; rename_i hK _; simp [codeK] at hK
end

end Dn
/-
  Whole functions. Conditions: none.
-/
set_option linter.unusedSimpArgs false
set_option linter.unusedVariables false
namespace Dn
open Go

section
variable {P : Program} {c : Ctx} {Z Zb Zi : Zone} {e e' e3 : Env} {st st' st3 B : St} {a a' : Act} {w w' : World} {R : Type} {r : R} {Q : Exit → Act → World → Prop} {o : Oper}

/-- parameters as slots -/
theorem entryK_spec {ts : List Nat} : ∀ {n : Nat} {vs : List Value} {ms : List MV} {K : Fr → List MV → Option R}, ArgReps e.key e.φ vs ms → entryK c ts n ms K = some r →
    ∃ fr rest vs1 vs2, K fr rest = some r ∧ vs = vs1 ++ vs2 ∧ vs1.length = ts.length ∧ ArgReps e.key e.φ vs2 rest ∧ keysOf fr = List.range' n ts.length ∧
      (∀ p ∈ fr, isPtr p.2 = false ∧ isBox p.2 = false ∧ ∃ v, vs1[p.1 - n]? = some v ∧ SlotRep e v p.2) := by
  induction ts with
  | nil => intro n vs ms K h hK; exact ⟨[], ms, [], vs, hK, rfl, rfl, h, rfl, by simp⟩
  | cons t ts ih =>
    intro n vs ms K h hK
    simp only [entryK] at hK
    cases hI : c.tv t with
    | none => simp [hI] at hK
    | some I =>
      simp only [hI] at hK
      cases ms with
      | nil => simp [gC] at hK
      | cons m ms =>
        simp only [gC] at hK
        obtain ⟨v, u, rfl, h1, h2⟩ := h
        obtain ⟨s, g1, g2, hK⟩ := openV_spec h1 hK
        obtain ⟨fr, rest, vs1, vs2, hK, rfl, q1, q2, q3, q4⟩ := ih h2 hK
        refine ⟨(n, s) :: fr, rest, v :: vs1, vs2, hK, rfl, by simp [q1], q2, ?_, ?_⟩
        · simp only [keysOf, List.map_cons, List.length_cons] at q3 ⊢
          rw [q3, List.range'_succ]
        · intro p hp
          rcases List.mem_cons.1 hp with rfl | hp
          · refine ⟨?_, ?_, v, by simp, g1⟩
            · cases s <;> simp [pureS] at g2 <;> rfl
            · cases s <;> simp [pureS] at g2 <;> rfl
          · obtain ⟨k1, k2, v', k3, k4⟩ := q4 p hp
            refine ⟨k1, k2, v', ?_, k4⟩
            have hk : p.1 ∈ keysOf fr := List.mem_map.2 ⟨p, hp, rfl⟩
            rw [q3, List.mem_range'] at hk
            obtain ⟨i, hi, he⟩ := hk
            have : p.1 - n = (p.1 - (n + 1)) + 1 := by omega
            rw [this]; simpa using k3
theorem capK_spec {kss : List (List Kd)} : ∀ {n : Nat} {vs : List Value} {ms : List MV} {K : Fr → Option R}, ArgReps e.key e.φ vs ms → capK kss n ms K = some r →
    ∃ fr, K fr = some r ∧ vs.length = kss.length ∧ keysOf fr = List.range' n kss.length ∧
      (∀ p ∈ fr, isPtr p.2 = false ∧ (∀ cs, p.2 ≠ .box cs) ∧ ∃ v, vs[p.1 - n]? = some v ∧ SlotRep e v p.2) := by
  induction kss with
  | nil =>
    intro n vs ms K h hK
    cases ms with
    | nil => cases h; exact ⟨[], hK, rfl, rfl, by simp⟩
    | cons m ms => simp [capK, gN] at hK
  | cons ks kss ih =>
    intro n vs ms K h hK
    cases ms with
    | nil => simp [capK, gC] at hK
    | cons m ms =>
      simp only [capK, gC] at hK
      obtain ⟨v, u, rfl, h1, h2⟩ := h
      unfold gP at hK
      split at hK
      · rename_i cs
        obtain ⟨_, h1⟩ := h1
        obtain ⟨blk, off, us, hv, hr, hφ⟩ : ∃ blk off us, v = .pointer (some ⟨blk, off, none⟩) ∧ RepL e.key e.φ us cs ∧ ∀ j, j < us.length → e.φ blk (off + j) = us[j]? := by
          generalize hvs : [v] = ws at h1
          cases h1 with
          | rp blk off us _ hr hφ => exact ⟨blk, off, us, by simpa using hvs, hr, hφ⟩
        obtain ⟨ls, hls, hK⟩ := oLeaves_spec (e := e) (vs := us) hK
        obtain ⟨fr, hK, q1, q3, q4⟩ := ih h2 hK
        refine ⟨(n, .fbox ls) :: fr, hK, by simp [q1], ?_, ?_⟩
        · simp only [keysOf, List.map_cons, List.length_cons] at q3 ⊢
          rw [q3, List.range'_succ]
        · intro p hp
          rcases List.mem_cons.1 hp with rfl | hp
          · refine ⟨rfl, fun cs he => (by cases he), v, by simp, ?_⟩
            simp only [SlotRep]
            exact ⟨blk, off, us, hv, hls.rep hr, hls.pur, hφ⟩
          · obtain ⟨k1, k2, v', k3, k4⟩ := q4 p hp
            refine ⟨k1, k2, v', ?_, k4⟩
            have hk : p.1 ∈ keysOf fr := List.mem_map.2 ⟨p, hp, rfl⟩
            rw [q3, List.mem_range'] at hk
            obtain ⟨i, hi, he⟩ := hk
            have : p.1 - n = (p.1 - (n + 1)) + 1 := by omega
            rw [this]; simpa using k3
      · simp at hK
theorem fget_mem {r : Fr} {t : Nat} (ht : t ∈ keysOf r) : (t, fget r t) ∈ r := by
  induction r with
  | nil => simp [keysOf] at ht
  | cons p r ih =>
    obtain ⟨k, x⟩ := p
    simp only [fget, nbeq]
    by_cases h : k = t
    · simp [h]
    · simp only [h, decide_false, cond_false]
      simp only [keysOf, List.map_cons, List.mem_cons] at ht
      exact List.mem_cons_of_mem _ (ih (ht.resolve_left (fun e => h e.symm)))

def resOne (tmps : Array Value) : ResultVar → Sem Value
  | .tmp t => pure (tmps.getD t undef)
  | .cell a t => do loadVar t (← asAddr (tmps.getD a undef))
theorem resK_spec {rs : List ResultVar} (hT : TIok P c.ti) : ∀ {e : Env} {st : St} {K : List MV → Option R}, Sim c Z e st a w → resK c st none rs K = some r →
    ∃ e' st' ms vs, Sim c Z e' st' a w ∧ Ext Z.In e e' ∧ (rs.mapM (resOne a.tmps)).run P w = .ok vs w ∧ ArgReps e'.key e'.φ vs ms ∧ K ms = some r := by
  induction rs with
  | nil => intro e st K h hK; exact ⟨e, st, [], [], h, .refl _ _, by simp, rfl, hK⟩
  | cons x rs ih =>
    intro e st K h hK
    have go : ∀ (s : Slot) (v : Value), SlotRep e v s → (resOne a.tmps x).run P w = .ok v w → (shSlot st s fun m st => resK c st none rs fun ms => K (m :: ms)) = some r →
        ∃ e' st' ms vs, Sim c Z e' st' a w ∧ Ext Z.In e e' ∧ ((x :: rs).mapM (resOne a.tmps)).run P w = .ok vs w ∧ ArgReps e'.key e'.φ vs ms ∧ K ms = some r := by
      intro s v hs hrun hK
      obtain ⟨e1, st1, m, h1, h2, h3, h4, hK⟩ := shSlot_spec h hs hK
      obtain ⟨e2, st2, ms, vs, q1, q2, q3, q4, hK⟩ := ih h1 hK
      refine ⟨e2, st2, m :: ms, v :: vs, q1, h2.trans q2, ?_, ⟨v, vs, rfl, ?_, q4⟩, hK⟩
      · simp [List.mapM_cons, hrun, q3]
      · have := h4.mono q2.on.φ
        rw [← q2.on.key] at this; exact this
    simp only [resK] at hK
    cases x with
    | tmp t =>
      simp only at hK
      have hs := h.slot t
      by_cases hb : ∃ cs, fget st.fr t = .box cs
      · obtain ⟨cs, hb⟩ := hb
        rw [hb] at hK
        simp [shSlot] at hK
      · refine go (fget st.fr t) (a.tmps.getD t undef) ?_ rfl hK
        generalize fget st.fr t = s at hs hb
        cases s <;> first | exact hs | exact absurd ⟨_, rfl⟩ hb
    | cell b t =>
      simp only at hK
      have hs := h.slot b
      split at hK
      · rename_i I cs hI hb
        obtain ⟨hI1, hI2⟩ := tv_some hI
        rw [hb] at hs
        obtain ⟨hv, hbx⟩ := hs
        cases hmp : isMp cs || psB b with
        | true => simp [hmp] at hK
        | false =>
        obtain ⟨hm0, hpb⟩ := Bool.or_eq_false_iff.1 hmp
        simp only [hmp, cond_false] at hK
        have hv := hv.1 hpb
        rw [bptr_p hm0] at hv
        obtain ⟨arr, T, hheap, hlv⟩ := hbx.cells hm0
        have hm : w.rangeAt (e.B b) 0 arr.toList := by
          intro j v hj
          rw [Nat.zero_add, cell_of hheap]; simpa using hj
        obtain ⟨v, s, h1, h2, h3, h4⟩ := ldLeaves_run (P := P) (st := st) (s := .skip) (hT t I hI1) hI2 hlv hm hK
        refine go s v h2 ?_ h4
        simpa [resOne, hv, asAddr, Instr.loadAt, Instr.sureAddr] using h1 w hm
      · simp at hK

/-- a result that is given away -/
theorem resF_spec {x : ResultVar} {ty : Nat} {I : TI} {K : List MV → Option R} (hI : c.tv ty = some I) (hT : TIok P c.ti) (hpf : Z.pfam = []) (h : Sim c Z e st a w) (hK : resK c st (some ty) [x] K = some r) :
    ∃ v xs, ([x].mapM (resOne a.tmps)).run P w = .ok [v] w ∧ FamOK c Z.nc e w v ⟨ty, false, xs⟩ ∧ K [.fresh xs] = some r := by
  obtain ⟨hti, hc⟩ := tv_some hI
  have go : ∀ (s : Slot) (v : Value), SlotRep e v s → (resOne a.tmps x).run P w = .ok v w → (match s with
      | .sc (.own f) => (match oget st.fams f with | some o => bif o.frz || !Nat.beq o.ty ty then none else resK c st (some ty) [] fun ms => K (.fresh o.xs :: ms) | none => none)
      | .sc .nil => resK c st (some ty) [] fun ms => K (.fresh [] :: ms)
      | _ => none) = some r → ∃ v xs, ([x].mapM (resOne a.tmps)).run P w = .ok [v] w ∧ FamOK c Z.nc e w v ⟨ty, false, xs⟩ ∧ K [.fresh xs] = some r := by
    intro s v hs hrun hK
    have hr : ([x].mapM (resOne a.tmps)).run P w = .ok [v] w := by simp [List.mapM_cons, hrun]
    split at hK
    · rename_i f
      cases hf : oget st.fams f with
      | none => simp [hf] at hK
      | some o =>
        simp only [hf] at hK
        cases hb : o.frz || !Nat.beq o.ty ty with
        | true => simp [hb] at hK
        | false =>
          simp only [hb, cond_false, resK] at hK
          obtain ⟨h1, h2⟩ := Bool.or_eq_false_iff.1 hb
          have hty : o.ty = ty := Nat.eq_of_beq_eq_true (by simpa using h2)
          obtain ⟨hv, _⟩ := own_val h hs hf
          obtain ⟨J, cells, k1, k2, k3, k4, k5⟩ := (h.fam f o hf).row
          refine ⟨v, o.xs, hr, ⟨J, cells, by rw [← hty]; exact k1, k2, by rw [hv, ← hty]; exact k3, k4, fun blk hb => ?_⟩, hK⟩
          rw [hv] at hb
          obtain ⟨q1, q2, _⟩ := k5 blk hb
          refine ⟨orl q1 (by rw [hpf]; simp), fun off u hu => ?_, fun hc => hc.elim⟩
          have := (q2 off u hu).1
          rw [h1] at this; cases this
    · simp only [resK] at hK
      simp only [SlotRep] at hs
      have hs : [v] = [Value.slice none 0 0] := hs
      simp at hs
      refine ⟨v, [], hr, ⟨I, [], hti, hc, by rw [hs]; exact World.ownsRow_nil w 0 ty I.size, rfl, fun blk hb => ?_⟩, hK⟩
      rw [hs] at hb; simp [Value.ownBlock] at hb
    · cases hK
  simp only [resK] at hK
  cases x with
  | tmp t =>
    simp only at hK
    have hs := h.slot t
    by_cases hb : ∃ cs, fget st.fr t = .box cs
    · obtain ⟨cs, hb⟩ := hb
      rw [hb] at hK
      simp at hK
    · refine go (fget st.fr t) (a.tmps.getD t undef) ?_ rfl hK
      generalize fget st.fr t = s at hs hb
      cases s <;> first | exact hs | exact absurd ⟨_, rfl⟩ hb
  | cell b t =>
    simp only at hK
    have hs := h.slot b
    split at hK
    · rename_i I cs hI hb
      obtain ⟨hI1, hI2⟩ := tv_some hI
      rw [hb] at hs
      obtain ⟨hv, hbx⟩ := hs
      cases hmp : isMp cs || psB b with
      | true => simp [hmp] at hK
      | false =>
      obtain ⟨hm0, hpb⟩ := Bool.or_eq_false_iff.1 hmp
      simp only [hmp, cond_false] at hK
      have hv := hv.1 hpb
      rw [bptr_p hm0] at hv
      obtain ⟨arr, T, hheap, hlv⟩ := hbx.cells hm0
      have hm : w.rangeAt (e.B b) 0 arr.toList := by
        intro j v hj
        rw [Nat.zero_add, cell_of hheap]; simpa using hj
      obtain ⟨v, s, h1, h2, h3, h4⟩ := ldLeaves_run (P := P) (st := st) (s := .skip) (hT t I hI1) hI2 hlv hm hK
      refine go s v h2 ?_ h4
      simpa [resOne, hv, asAddr, Instr.loadAt, Instr.sureAddr] using h1 w hm
    · simp at hK

/-- a function does what its abstract run says -/
theorem body_okG {X : Code → St → (Nat → St → Option MV) → Option MV} (hX : ∀ (b : Code) {r : MV} {Z : Zone} {e : Env} {st : St} {a : Act} {w : World} {K : Nat → St → Option MV} {Q : Exit → Act → World → Prop}, Sim c Z e st a w → X b st K = some r →
    (∀ n e' st' a' w', Sim c Z e' st' a' w' → Trans Z.In e.φ w e'.φ w' → K n st' = some r → Q (exitOf n) a' w') → b.wp P Q a w)
    {f : FuncId} {fn : Func} {caps : List (List Kd)} {ms : List MV} {m : MV} (hG : Good P c) (hf : P.funcs[f]? = some fn) (hname : (fn.name == "runtime.NumGoroutine") = false)
    (hn : c.n = fn.ntmps) (hsz : fn.params.size + caps.length ≤ fn.ntmps) (hg : c.gives (c.key f) = false) {fresh : Option Nat} (hfr : ∀ ty, fresh = some ty → ty = c.fty (c.key f) ∧ fn.results.toList.length = 1 ∧ ∃ I, c.tv ty = some I) (hb : bodyG X c caps fresh fn ms = some m) : Sound1 P c f ms m := by
  intro φ w Z vs hz hargs himm
  simp only [ArgsIn, hg, Bool.false_eq_true, if_false] at hargs
  unfold bodyG at hb
  cases hbody : fn.body with
  | none => simp [hbody] at hb
  | some b =>
    simp only [hbody] at hb
    have hrun : (callFunc f vs.toArray).run P w = .ok (.enter f vs.toArray) w := by
      have hn2 : ¬ fn.name = "runtime.NumGoroutine" := by simpa using hname
      simp [callFunc, hf, hn2, hbody]
    unfold CallOK
    rw [hrun]
    refine calls_of_wp hf hbody ?_
    let e : Env := env0 c.key φ
    have hargs : ArgReps e.key e.φ vs ms := hargs
    obtain ⟨fr, rest, vs1, vs2, hb, rfl, l1, a2, k1, s1⟩ := entryK_spec hargs hb
    obtain ⟨fr', hb, l2, k2, s2⟩ := capK_spec a2 hb
    simp only [app_eq] at hb
    have htn : (vs1 ++ vs2).toArray.size = fn.params.size + caps.length := by simp [l1, l2]
    let a : Act := { tmps := (vs1 ++ vs2).toArray ++ Array.replicate (fn.ntmps - (vs1 ++ vs2).toArray.size) undef, defers := [] }
    have hat : ∀ (t : Nat) (v : Value), (vs1 ++ vs2)[t]? = some v → a.tmps.getD t undef = v := by
      intro t v ht
      have hlt : t < (vs1 ++ vs2).length := (List.getElem?_eq_some_iff.1 ht).1
      rw [Array.getD_eq_getD_getElem?]
      show (((vs1 ++ vs2).toArray ++ Array.replicate _ undef)[t]?).getD undef = v
      rw [Array.getElem?_append_left (by simpa using hlt)]
      simp only [List.getElem?_toArray]
      rw [ht]; rfl
    have hslot : ∀ t, isPtr (fget (fr ++ fr') t) = false ∧ (∀ cs, fget (fr ++ fr') t ≠ .box cs) ∧ SlotRep e (a.tmps.getD t undef) (fget (fr ++ fr') t) := by
      intro t
      rw [fget_append]
      by_cases h1 : t ∈ keysOf fr
      · simp only [h1, if_true]
        obtain ⟨g1, g2, v, g3, g4⟩ := s1 _ (fget_mem h1)
        refine ⟨g1, ?_, ?_⟩
        · intro cs hc; simp only [hc, isBox] at g2; cases g2
        · rw [hat t v ?_]; exact g4
          have hlt : t < vs1.length := (List.getElem?_eq_some_iff.1 g3).1
          rw [List.getElem?_append_left hlt]; exact g3
      · simp only [h1, if_false]
        by_cases h2 : t ∈ keysOf fr'
        · obtain ⟨g1, g2, v, g3, g4⟩ := s2 _ (fget_mem h2)
          refine ⟨g1, g2, ?_⟩
          rw [hat t v ?_]; exact g4
          have hk := h2
          rw [k2, List.mem_range'] at hk
          obtain ⟨i, hi, he⟩ := hk
          have hps : fn.params.size = vs1.length := by rw [l1]; simp
          rw [List.getElem?_append_right (by omega), ← hps]; exact g3
        · rw [fget_none _ _ h2]
          exact ⟨rfl, fun cs hc => (by cases hc), by simp [SlotRep]⟩
    have hnobox : ∀ t cs, fget (fr ++ fr') t = .box cs → False := fun t cs hc => (hslot t).2.1 cs hc
    have hsim : Sim c (Zone.plain Z) e ⟨[], [], fr ++ fr', []⟩ a w := by
      refine ⟨⟨rfl, rfl, rfl, fun t ht => by simp [Zone.plain] at ht⟩, ?_, rfl, rfl, ?_, ?_, fun t => rootOK_of (hslot t).1, fun f o ho => by simp [oget] at ho, fun t t' cs cs' h1 => (hnobox t cs h1).elim,
        fun t cs f o h1 => (hnobox t cs h1).elim, fun f f' o o' k h1 => by simp [oget] at h1, himm, hz⟩
      · show ((vs1 ++ vs2).toArray ++ Array.replicate (fn.ntmps - (vs1 ++ vs2).toArray.size) undef).size = c.n
        rw [Array.size_append, Array.size_replicate, htn, hn]; omega
      · show (keysOf (fr ++ fr')).Nodup
        have : keysOf (fr ++ fr') = keysOf fr ++ keysOf fr' := by simp [keysOf]
        rw [this, k1, k2]
        have : List.range' 0 fn.params.toList.length ++ List.range' fn.params.size caps.length = List.range' 0 (fn.params.toList.length + caps.length) := by
          have := List.range'_append_1 (s := 0) (m := fn.params.toList.length) (n := caps.length)
          simpa using this
        rw [this]; exact List.nodup_range'
      · intro t
        obtain ⟨g1, g2, g3⟩ := hslot t
        show SlotAt _ e w t _ (fget (fr ++ fr') t)
        generalize fget (fr ++ fr') t = s at g1 g2 g3
        cases s <;> first | exact g3 | exact absurd rfl (g2 _)
    refine hX b hsim hb ?_
    intro n e' st' a' w' h' t' hK
    cases hle : Nat.ble n 1 with
    | false => simp [hle] at hK
    | true =>
      simp only [hle, cond_true] at hK
      have hout : ∃ φ' us, Trans Z e'.φ w' φ' w' ∧ Imm φ' w' ∧ (fn.results.toList.mapM (resOne a'.tmps)).run P w' = .ok us w' ∧ ResRep c Z φ' w' (c.key f) (if h : us.toArray.size = 1 then us.toArray[0] else .tuple us.toArray) m := by
        cases fresh with
        | some ty =>
          obtain ⟨h1, h2, I, h3⟩ := hfr ty rfl
          match hrs : fn.results.toList, h2 with
          | [x], _ =>
            rw [hrs] at hK
            obtain ⟨v, xs, g1, g2, g3⟩ := resF_spec (P := P) h3 hG.ti rfl h' hK
            have g3 : some (MV.fresh xs) = some m := g3
            cases g3
            refine ⟨e'.φ, [v], .refl _ _ _, h'.imm, g1, ?_⟩
            simp only [List.size_toArray, List.length_singleton, dite_true]
            show FamOK c (Zone.plain Z) (env0 c.key e'.φ) w' v ⟨c.fty (c.key f), false, xs⟩
            rw [← h1]
            exact g2.env (e' := env0 c.key e'.φ) h'.key.symm rfl
        | none =>
        obtain ⟨e2, st2, ns, us, q1, q2, q3, q4, hK⟩ := resK_spec (P := P) hG.ti h' hK
        refine ⟨e2.φ, us, q2.tr, q1.imm, q3, ?_⟩
        have hk2 : e2.key = c.key := q1.key
        rw [hk2] at q4
        split at hK
        · rename_i m'
          cases hK
          obtain ⟨v, u, rfl, g1, g2⟩ := q4
          have g2 : u = [] := g2
          subst g2
          simp only [List.size_toArray, List.length_singleton, dite_true]
          cases m <;> first | exact g1 | exact absurd g1.1 (by simp [MV.one])
        · rename_i ns' hne
          cases hK
          have hne : us.toArray.size ≠ 1 := by
            intro h1
            cases us with
            | nil => simp at h1
            | cons v us =>
              cases us with
              | cons => simp at h1
              | nil =>
                cases ns with
                | nil => cases q4
                | cons m1 ns1 =>
                  obtain ⟨v', u', h2, g1, g2⟩ := q4
                  simp at h2
                  obtain ⟨rfl, rfl⟩ := h2
                  cases ns1 with
                  | nil => exact hne m1 rfl
                  | cons => obtain ⟨_, _, h3, _⟩ := g2; simp at h3
          rw [dif_neg hne]
          exact ⟨us.toArray, rfl, by simpa using q4⟩
      obtain ⟨φ2, us, p1, p2, q3, p4⟩ := hout
      have hres : (results fn a'.tmps).run P w' = .ok (if h : us.toArray.size = 1 then us.toArray[0] else .tuple us.toArray) w' := by
        have hm : (fn.results.mapM (resOne a'.tmps)).run P w' = .ok us.toArray w' := by
          rw [Array.mapM_eq_mapM_toList]
          simp [q3]
        have hm2 : results fn a'.tmps = (do let vs ← fn.results.mapM (resOne a'.tmps); pure (if h : vs.size = 1 then vs[0] else .tuple vs)) := by
          unfold results
          congr 1
        rw [hm2]
        simp [hm]
      have hpost : ∃ φ', Trans Z φ w φ' w' ∧ Imm φ' w' ∧ ResRep c Z φ' w' (c.key f) (if h : us.toArray.size = 1 then us.toArray[0] else .tuple us.toArray) m := ⟨φ2, t'.trans p1, p2, p4⟩
      match n, hle with
      | 0, _ => exact ⟨h'.defers.1, _, hres, _, rfl, hpost.imp fun φ' h => ⟨h.1, h.2.1, .plain h.2.2⟩⟩
      | 1, _ => exact ⟨h'.defers.1, _, hres, _, rfl, hpost.imp fun φ' h => ⟨h.1, h.2.1, .plain h.2.2⟩⟩
      | n + 2, hle => simp [Nat.ble] at hle
theorem body_ok {f : FuncId} {fn : Func} {caps : List (List Kd)} {ms : List MV} {m : MV} (hG : Good P c) (hD : Draws P c) (hf : P.funcs[f]? = some fn) (hname : (fn.name == "runtime.NumGoroutine") = false)
    (hn : c.n = fn.ntmps) (hsz : fn.params.size + caps.length ≤ fn.ntmps) (hg : c.gives (c.key f) = false) {fresh : Option Nat} (hfr : ∀ ty, fresh = some ty → ty = c.fty (c.key f) ∧ fn.results.toList.length = 1 ∧ ∃ I, c.tv ty = some I) (hb : bodyK c caps fresh fn ms = some m) : Sound1 P c f ms m :=
  body_okG (fun b {r Z e st a w K Q} h hK hQ => code_ok hG hD b h hK hQ) hG hf hname hn hsz hg hfr hb
end

end Dn
/-
  What arguments read as: values of their types. Conditions: none.
-/
set_option linter.unusedSimpArgs false
set_option linter.unusedVariables false
namespace Dn
open Go Go.WideShapes

/-- the memory as it is, all of it -/
def phOf (W : World) : Ph := fun b o => W.cell? ⟨b, o, none⟩
theorem imm_phOf (W : World) : Imm (phOf W) W := fun b o v h => h

/-- fields one behind the other -/
def contig (P : Program) : List Field → Nat → Nat → Bool
  | [], o, n => Nat.beq o n
  | f :: fs, o, n => Nat.beq f.offset o && contig P fs (o + P.cellsOf f.type) n
/-- types of plain data: numbers, texts, sums, slices and structs of such -/
def okT (P : Program) : Nat → TypeId → Bool
  | 0, _ => false
  | d + 1, t => match P.underlying t with
    | some .bool => true
    | some (.int _) => true
    | some .string => true
    | some (.slice e) => okT P d e && Nat.ble 1 (P.cellsOf e)
    | some (.struct fs) => contig P fs.toList 0 (P.cellsOf t) && fs.toList.all fun f => okT P d f.type
    | some (.array n e) => Nat.beq n 32 && (match P.underlying e with | some (.int .u8) => true | _ => false) && Nat.beq (P.cellsOf e) 1 && Nat.beq (P.cellsOf t) 32
    | _ => false

/-- a value of a type, as an element or an argument -/
def ME (P : Program) (F : TypeId → List MV → Prop) (e : TypeId) (x : MV) : Prop :=
  match P.underlying e with
  | some (.struct _) => ∃ cs, x = .agg cs ∧ F e cs
  | _ => F e [x]
def FT (F : TypeId → List MV → Prop) : List TypeId → List MV → Prop
  | [], ms => ms = []
  | t :: ts, ms => ∃ a b, ms = a ++ b ∧ F t a ∧ FT F ts b
/-- the leaves of a value of a type -/
def MT (P : Program) : Nat → TypeId → List MV → Prop
  | 0, _, _ => False
  | d + 1, t, ms => match P.underlying t with
    | some .bool => ∃ b, ms = [.b b]
    | some (.int k) => ∃ n, ms = [.i k n] ∧ (Lit.int k n).wf = true
    | some .string => ∃ l : List UInt8, ms = [.s l] ∧ l.length ≤ maxLen
    | some (.slice e) => ∃ xs, ms = [.list xs] ∧ xs.length ≤ maxLen ∧ ∀ x ∈ xs, ME P (MT P d) e x
    | some (.struct fs) => FT (MT P d) (fs.toList.map (·.type)) ms
    | some (.array _ _) => ∃ h, ms = [.h h]
    | _ => False

section
variable {H : Type} {enc : TypeId × Value → H} {P : Program} {W : World} {base : Nat} {sp : Nat → Bool} {held : Bool} {key : Nat → Nat}

theorem RepL.append {key : Nat → Nat} {φ : Ph} {ms ns : List MV} : ∀ {vs us : List Value}, RepL key φ vs ms → RepL key φ us ns → RepL key φ (vs ++ us) (ms ++ ns) := by
  induction ms with
  | nil => intro vs us h h'; cases h; simpa using h'
  | cons m ms ih =>
    intro vs us h h'
    cases h with
    | cons v _ vs _ h1 h2 => rw [List.append_assoc]; exact .cons v m _ _ h1 (ih h2 h')
theorem RepL.one1 {key : Nat → Nat} {φ : Ph} {v : Value} {m : MV} (h : Rep key φ [v] m) : RepL key φ [v] [m] := by
  have := RepL.cons [v] m [] [] h .nil
  simpa using this
theorem RepL.single {key : Nat → Nat} {φ : Ph} {vs : List Value} {m : MV} (h : RepL key φ vs [m]) : Rep key φ vs m := by
  cases h with
  | cons v _ vs _ h1 h2 => cases h2; simpa using h1

theorem cells_get {a : Addr} {n : Nat} {cs : List Value} (h : W.cells? base a n = some cs) : cs.length = n ∧ ∀ j, j < n → W.cell? (a.add j) = cs[j]? := by
  unfold World.cells? at h
  split at h
  · have hl := mapM_some_length h
    refine ⟨by simpa using hl, fun j hj => ?_⟩
    exact mapM_some_get h j j (by simp [hj])
  · cases h

theorem fields_read {F : TypeId → List MV → Prop} {fuel : Nat} {cs : List Value} : ∀ (fs : List Field) (o n : Nat) (xs : List (DataW H × List MemPlace)), contig P fs o n = true → cs.length = n →
    (∀ (i : Nat) (f : Field), fs[i]? = some f → DataW.trod enc P W base sp held fuel f.type ((cs.drop f.offset).take (P.cellsOf f.type)) = xs[i]?) → xs.length = fs.length →
    (∀ f ∈ fs, ∀ cs' x, DataW.trod enc P W base sp held fuel f.type cs' = some x → ∃ ms, RepL key (phOf W) cs' ms ∧ F f.type ms) →
    ∃ ms, RepL key (phOf W) (cs.drop o) ms ∧ FT F (fs.map (·.type)) ms := by
  intro fs
  induction fs with
  | nil =>
    intro o n xs hc hl _ _ _
    have : o = n := Nat.eq_of_beq_eq_true hc
    subst this
    refine ⟨[], ?_, rfl⟩
    rw [← hl, List.drop_length]; exact .nil
  | cons f fs ih =>
    intro o n xs hc hl hx hxl hF
    simp only [contig, Bool.and_eq_true] at hc
    have ho := Nat.eq_of_beq_eq_true hc.1
    cases xs with
    | nil => simp at hxl
    | cons x xs =>
      have h0 := hx 0 f rfl
      rw [ho] at h0
      obtain ⟨m1, r1, t1⟩ := hF f (by simp) _ x (by simpa using h0)
      obtain ⟨m2, r2, t2⟩ := ih (o + P.cellsOf f.type) n xs hc.2 hl (fun i g hg => by have := hx (i + 1) g (by simpa using hg); simpa using this) (by simpa using hxl) (fun g hg => hF g (by simp [hg]))
      refine ⟨m1 ++ m2, ?_, m1, m2, rfl, t1, t2⟩
      have := r1.append r2
      rw [← List.drop_drop, List.take_append_drop] at this
      exact this

theorem read_rep : ∀ (fuel D : Nat) (t : TypeId) (cs : List Value) (x : DataW H × List MemPlace), okT P D t = true → DataW.trod enc P W base sp held fuel t cs = some x →
    ∃ ms, RepL key (phOf W) cs ms ∧ MT P fuel t ms := by
  intro fuel
  induction fuel with
  | zero => intro D t cs x _ h; simp [DataW.trod] at h
  | succ fuel ih =>
    intro D t cs x hD h
    cases D with
    | zero => simp [okT] at hD
    | succ D =>
      unfold okT at hD
      cases hu : P.underlying t with
      | none => simp [hu] at hD
      | some d =>
        cases d <;> simp only [hu] at hD <;> try (cases hD; done)
        case bool =>
          obtain ⟨b, rfl, _⟩ := DataW.trod_bool hu h
          exact ⟨[.b b], .one1 (.b b), by simp only [MT, hu]; exact ⟨b, rfl⟩⟩
        case int k =>
          obtain ⟨n, rfl, _, hw⟩ := DataW.trod_int hu h
          exact ⟨[.i k n], .one1 (.i k n), by simp only [MT, hu]; exact ⟨n, rfl, hw⟩⟩
        case string =>
          obtain ⟨s, rfl, _, hw⟩ := DataW.trod_string hu h
          exact ⟨[.s s.data.toList], .one1 (.s s), by simp only [MT, hu]; exact ⟨_, rfl, by simpa using hw⟩⟩
        case struct fs =>
          obtain ⟨xs, n, hn, _, hl, hxl, hx⟩ := DataW.trod_struct hu h
          have hn : n = fuel := by omega
          subst hn
          simp only [Bool.and_eq_true] at hD
          obtain ⟨ms, r1, t1⟩ := fields_read (F := MT P n) (key := key) fs.toList 0 (P.cellsOf t) xs hD.1 hl (fun i f hf => hx i f (by simpa using hf)) (by simpa using hxl)
            (fun f hf cs' x' h' => ih D f.type cs' x' (List.all_eq_true.1 hD.2 f hf) h')
          exact ⟨ms, by simpa using r1, by simp only [MT, hu]; exact t1⟩
        case slice e =>
          simp only [Bool.and_eq_true] at hD
          have hpos : 1 ≤ P.cellsOf e := Nat.le_of_ble_eq_true hD.2
          rcases DataW.trod_slice hu h with ⟨rfl, _⟩ | ⟨a, len, cap, elems, rest, n, hn, rfl, _, _, hlc, hcm, hel, hx, _⟩
          · refine ⟨[.list []], .one1 (.list none 0 [] 0 0 0 (fun _ => []) (by simp) (by simp) (by simp) (by simp) (by simp)), ?_⟩
            simp only [MT, hu]
            exact ⟨[], rfl, Nat.zero_le _, by simp⟩
          · have hn : n = fuel := by omega
            subst hn
            have hone : ∀ i, i < len → ∃ cs' m, W.cells? base (a.add (i * P.cellsOf e)) (P.cellsOf e) = some cs' ∧ Rep key (phOf W) cs' m ∧ ME P (MT P n) e m := by
              intro i hi
              have h1 := hx i hi
              cases hc : W.cells? base (a.add (i * P.cellsOf e)) (P.cellsOf e) with
              | none =>
                rw [hc] at h1
                have : elems[i]? = none := by simpa using h1.symm
                rw [List.getElem?_eq_none_iff] at this
                omega
              | some cs' =>
                rw [hc] at h1
                have hlt : i < elems.length := by omega
                rw [List.getElem?_eq_getElem hlt] at h1
                obtain ⟨ms, r1, t1⟩ := ih D e cs' _ hD.1 (by simpa using h1)
                have hok := hD.1
                by_cases hs : ∃ fs, P.underlying e = some (.struct fs)
                · obtain ⟨fs, hs⟩ := hs
                  exact ⟨cs', .agg ms, rfl, .agg cs' ms r1, by simp only [ME, hs]; exact ⟨ms, rfl, t1⟩⟩
                · have h1m : ∃ m, ms = [m] := by
                    cases n with
                    | zero => exact t1.elim
                    | succ n =>
                      simp only [MT] at t1
                      cases hue : P.underlying e with
                      | none => simp [hue] at t1
                      | some de =>
                        cases de <;> simp only [hue] at t1 <;> first
                          | exact t1.elim
                          | (obtain ⟨y, hy, _⟩ := t1; exact ⟨_, hy⟩)
                          | (obtain ⟨y, hy⟩ := t1; exact ⟨_, hy⟩)
                          | exact absurd ⟨_, hue⟩ hs
                  obtain ⟨m, rfl⟩ := h1m
                  refine ⟨cs', m, rfl, r1.single, ?_⟩
                  unfold ME
                  cases hue : P.underlying e with
                  | none => exact t1
                  | some de => cases de <;> first | exact t1 | exact absurd ⟨_, hue⟩ hs
            -- the elements, one by one
            let f : Nat → List Value := fun i => (W.cells? base (a.add (i * P.cellsOf e)) (P.cellsOf e)).getD []
            let g : Nat → MV := fun i => if hi : i < len then Classical.choose (Classical.choose_spec (hone i hi)) else default
            have hfg : ∀ i, i < len → W.cells? base (a.add (i * P.cellsOf e)) (P.cellsOf e) = some (f i) ∧ Rep key (phOf W) (f i) (g i) ∧ ME P (MT P n) e (g i) := by
              intro i hi
              have hsp := Classical.choose_spec (Classical.choose_spec (hone i hi))
              have hf : f i = Classical.choose (hone i hi) := by
                show (W.cells? base (a.add (i * P.cellsOf e)) (P.cellsOf e)).getD [] = _
                exact congrArg (fun o => o.getD []) hsp.1
              have hg : g i = Classical.choose (Classical.choose_spec (hone i hi)) := by
                show (if hi : i < len then _ else _) = _
                rw [dif_pos hi]
              rw [hf, hg]; exact hsp
            have hspot : 0 < len → a = ⟨a.block, a.off, none⟩ := by
              intro h0
              obtain ⟨h1, _, _⟩ := hfg 0 h0
              obtain ⟨hcl, hcg⟩ := cells_get h1
              have := hcg 0 (by omega)
              rw [Nat.zero_mul] at this
              have hz : (a.add 0).add 0 = a := rfl
              rw [hz] at this
              have hlt : 0 < (f 0).length := by omega
              rw [List.getElem?_eq_getElem hlt] at this
              unfold World.cell? at this
              split at this
              · cases hsp : a.spot with
                | none => cases a; simp at hsp; subst hsp; rfl
                | some s => simp [hsp] at this
              · cases this
            have haddr : ∀ i j, i < len → j < P.cellsOf e → phOf W a.block (a.off + i * P.cellsOf e + j) = (f i)[j]? := by
              intro i j hi hj
              obtain ⟨h1, _, _⟩ := hfg i hi
              obtain ⟨hcl, hcg⟩ := cells_get h1
              have := hcg j hj
              rw [← this]
              unfold phOf
              congr 1
              have ha := hspot (by omega)
              rw [ha]
              rw [Addr.add_mid, Addr.add_mid]
            refine ⟨[.list ((List.range len).map g)], .one1 ?_, ?_⟩
            · have hlen : ((List.range len).map g).length = len := by simp
              have := Rep.list (key := key) (φ := phOf W) (some a) cap ((List.range len).map g) a.block a.off (P.cellsOf e) f (by rw [hlen]; exact hlc) (fun h0 => by rw [hlen] at h0; exact congrArg some (hspot h0))
                (fun i hi => by rw [hlen] at hi; exact (cells_get (hfg i hi).1).1) (fun i j hi hj => haddr i j (by rw [hlen] at hi; exact hi) hj)
                (fun i hi => by simp at hi; simpa using (hfg i hi).2.1)
              rw [hlen] at this
              exact this
            · simp only [MT, hu]
              refine ⟨_, rfl, by simp; omega, fun y hy => ?_⟩
              obtain ⟨i, hi, rfl⟩ := List.mem_map.1 hy
              exact (hfg i (by simpa using hi)).2.2
        case array n e =>
          simp only [Bool.and_eq_true] at hD
          obtain ⟨⟨⟨h1, h2⟩, h3⟩, h4⟩ := hD
          have h1 := Nat.eq_of_beq_eq_true h1
          have h3 := Nat.eq_of_beq_eq_true h3
          have h4 := Nat.eq_of_beq_eq_true h4
          subst h1
          obtain ⟨xs, m, hm, _, hl, hxl, hx⟩ := DataW.trod_array hu h
          rw [h4] at hl
          split at h2
          · rename_i hue
            have hcell : ∀ i (hi : i < cs.length), ∃ b : UInt8, cs[i] = .int .u8 (b.toNat : Int) := by
              intro i hi
              have hi32 : i < 32 := by omega
              have := hx i hi32
              rw [h3, Nat.mul_one] at this
              have htk : (cs.drop i).take 1 = [cs[i]] := by
                rw [List.take_one, List.head?_drop, List.getElem?_eq_getElem hi]; rfl
              rw [htk, List.getElem?_eq_getElem (by omega)] at this
              obtain ⟨k, hk, _, hw⟩ := DataW.trod_int hue this
              simp only [List.cons.injEq, and_true] at hk
              refine ⟨UInt8.ofNat k.toNat, ?_⟩
              rw [hk]
              simp only [Lit.wf, Bool.and_eq_true, decide_eq_true_eq] at hw
              have hmin : IntKind.u8.min = 0 := by decide
              have hmax : IntKind.u8.max = 255 := by decide
              rw [hmin, hmax] at hw
              congr 1
              have : (UInt8.ofNat k.toNat).toNat = k.toNat := by
                rw [UInt8.toNat_ofNat']; omega
              rw [this]; omega
            have : ∃ l : List UInt8, cs = l.map fun b => Value.int .u8 (b.toNat : Int) := by
              clear hx hl h
              induction cs with
              | nil => exact ⟨[], rfl⟩
              | cons c cs ihc =>
                obtain ⟨b, hb⟩ := hcell 0 (by simp)
                obtain ⟨l, hl⟩ := ihc (fun i hi => by have := hcell (i + 1) (by simpa using hi); simpa using this)
                exact ⟨b :: l, by simp at hb; rw [hb, hl]; rfl⟩
            obtain ⟨l, rfl⟩ := this
            have hl32 : l.length = 32 := by simpa using hl
            refine ⟨[.h ⟨l, hl32⟩], ?_, by simp only [MT, hu]; exact ⟨_, rfl⟩⟩
            have := RepL.cons (key := key) (φ := phOf W) _ (.h ⟨l, hl32⟩) [] [] (.h ⟨l, hl32⟩) .nil
            simpa using this
          · cases h2

/-- an argument -/
theorem arg_read {r : Reach} {b0 D : Nat} {t : TypeId} {v : Value} {d : DataW H} {ps : List MemPlace} (hD : okT P D t = true) (hv : Value.okWide P W r b0 t v) (h : DataW.Trod enc P W base sp held t v d ps) :
    ∃ m n, ArgRep key (phOf W) v m ∧ ME P (MT P n) t m := by
  obtain ⟨fuel, hf⟩ := h
  obtain ⟨ms, r1, t1⟩ := read_rep (key := key) fuel D t _ _ hD hf
  cases fuel with
  | zero => exact t1.elim
  | succ fuel =>
    have t2 := t1
    simp only [MT] at t1
    cases hu : P.underlying t with
    | none => simp [hu] at t1
    | some k =>
      simp only [hu] at t1
      cases k <;> simp only at t1 <;> try (exact t1.elim)
      case bool =>
        obtain ⟨b, rfl⟩ := t1
        obtain ⟨b', rfl⟩ := okWide_bool hu hv
        refine ⟨.b b, fuel + 1, ⟨rfl, r1.single⟩, by unfold ME; simp only [hu]; exact t2⟩
      case int k =>
        obtain ⟨n, rfl, _⟩ := t1
        obtain ⟨n', rfl⟩ := okWide_int hu hv
        refine ⟨.i k n, fuel + 1, ⟨rfl, r1.single⟩, by unfold ME; simp only [hu]; exact t2⟩
      case string =>
        obtain ⟨l, rfl, _⟩ := t1
        obtain ⟨s', rfl⟩ := okWide_string hu hv
        refine ⟨.s l, fuel + 1, ⟨rfl, r1.single⟩, by unfold ME; simp only [hu]; exact t2⟩
      case slice e =>
        obtain ⟨xs, rfl, _⟩ := t1
        have hvc : v.cells.toList = [v] := by
          simp only [Value.okWide, hu, Cell.okWide] at hv
          cases v <;> simp_all [Cell.ok, Value.cells]
        rw [hvc] at r1
        refine ⟨.list xs, fuel + 1, ⟨rfl, r1.single⟩, by unfold ME; simp only [hu]; exact t2⟩
      case struct fs =>
        obtain ⟨arr, rfl, _⟩ := okWide_struct hu hv
        refine ⟨.agg ms, fuel + 1, ⟨arr, rfl, by simpa [Value.cells] using r1⟩, by unfold ME; simp only [hu]; exact ⟨ms, rfl, t2⟩⟩
      case array n e =>
        obtain ⟨h, rfl⟩ := t1
        have : ∃ arr, v = .agg arr := by
          simp only [Value.okWide, hu] at hv
          obtain ⟨arr, rfl, _⟩ := hv
          exact ⟨arr, rfl⟩
        obtain ⟨arr, rfl⟩ := this
        refine ⟨.h h, fuel + 1, ?_, by unfold ME; simp only [hu]; exact t2⟩
        have hr := r1.single
        simp only [Value.cells] at hr
        generalize hvs : arr.toList = vs at hr
        cases hr
        show Value.agg arr = .agg _
        rw [← hvs]
end

end Dn
/-
  A law of plain data, out of its function's contract. Conditions: none.
-/
set_option linter.unusedSimpArgs false
set_option linter.unusedVariables false
namespace Dn
open Go Go.WideShapes Go.ChangeShapes Go.RowKit

section
variable {H : Type} {enc : TypeId × Value → H} {P : Program} {W W' : World} {c : Ctx}

theorem trodAll_below (hl : laidOutB P = true) (hb : Below W.heap.size W W') : ∀ {ts : List TypeId} {vs : List Value} {ds : List (DataW H)} {ps : List MemPlace}, (∀ t ∈ ts, P.readableRec t = true ∧ t < P.types.size) →
    DataW.TrodAll enc P W 0 (fun _ => true) true ts vs ds ps → (∀ x ∈ ps, x.block < W.heap.size) → DataW.TrodAll enc P W' 0 (fun b => decide (b < W.heap.size)) true ts vs ds ps
  | [], [], [], _, _, h, _ => h
  | t :: ts, v :: vs, d :: ds, _, ht, ⟨p, q, h1, h2, e⟩, hs =>
    ⟨p, q, Below.trod hl (ht t (by simp)).1 (ht t (by simp)).2 h1 hb (fun x hx => hs x (by rw [e]; exact List.mem_append_left _ hx)),
      trodAll_below hl hb (fun u hu => ht u (by simp [hu])) h2 (fun x hx => hs x (by rw [e]; exact List.mem_append_right _ hx)), e⟩

/-- arguments of their types -/
def ParamsOK (P : Program) : List TypeId → List MV → Prop
  | [], ms => ms = []
  | t :: ts, ms => ∃ m r, ms = m :: r ∧ (∃ n, ME P (MT P n) t m) ∧ ParamsOK P ts r
theorem args_read {base : Nat} {sp : Nat → Bool} {held : Bool} {key : Nat → Nat} {r : Reach} {b0 : Nat} : ∀ {ts : List TypeId} {vs : List Value} {ds : List (DataW H)} {ps : List MemPlace}, (∀ t ∈ ts, ∃ D, okT P D t = true) →
    (∀ (j : Nat) t v, ts[j]? = some t → vs[j]? = some v → Value.okWide P W r b0 t v) → DataW.TrodAll enc P W base sp held ts vs ds ps → ∃ ms, ArgReps key (phOf W) vs ms ∧ ParamsOK P ts ms ∧ ds.length = ts.length
  | [], [], [], _, _, _, _ => ⟨[], rfl, rfl, rfl⟩
  | t :: ts, v :: vs, d :: ds, _, ht, hv, ⟨p, q, h1, h2, e⟩ => by
    obtain ⟨D, hD⟩ := ht t (by simp)
    obtain ⟨m, n, r1, t1⟩ := arg_read (key := key) hD (hv 0 t v rfl rfl) h1
    obtain ⟨ms, r2, t2, hl⟩ := args_read (key := key) (fun u hu => ht u (by simp [hu])) (fun j u x hu hx => hv (j + 1) u x (by simpa using hu) (by simpa using hx)) h2
    exact ⟨m :: ms, ⟨v, vs, rfl, r1, r2⟩, ⟨m, ms, rfl, ⟨n, t1⟩, t2⟩, by simp [hl]⟩

theorem law_calls {fn : Func} {f : FuncId} {s : ChangeSpec} {args : Array Value} {ds gs : List (DataW H)} {before : List MemPlace} {tb : TypeId} {base : Nat} (hf : P.funcs[f]? = some fn) (hbody : fn.body.isSome = true) (hname : (fn.name == "runtime.NumGoroutine") = false)
    (hl : laidOutB P = true) (hpar : ∀ t ∈ fn.params.toList, (∃ D, okT P D t = true) ∧ P.readableRec t = true ∧ t < P.types.size) (hres : fn.resultTypes = #[tb]) (htb : P.underlying tb = some .bool) (hv : s.vars = [])
    (hfn : ∀ ds : List (DataW H), ds.length = fn.params.toList.length → s.fn H ds = { results := [.lit (.bool true)], args := ds })
    (hval : ∀ (j : Nat) t v, fn.params[j]? = some t → args[j]? = some v → Value.okWide P W .any base t v)
    (hW : DataW.Whole enc P fn.params.toList s.vars false W args.toList ds gs before) (hg : c.gives (c.key f) = false)
    (hcall : ∀ ms, ParamsOK P fn.params.toList ms → Sound1 P c f ms (.b true)) :
    Calls P f args W fun e W' => ∃ v, e = .returned v ∧ s.post enc P fn false true false false W args v W' := by
  have hW' := hW
  obtain ⟨p, q, hA, hV, rfl, hfz, hnd⟩ := hW
  rw [hv] at hV
  obtain ⟨rfl, rfl⟩ := trodVars_none hV
  have hlt : ∀ x ∈ p, x.block < W.heap.size := fun x hx => by simpa using hW'.lt x (by simp [hx])
  obtain ⟨ms, r1, t1, hdl⟩ := args_read (key := c.key) (fun t ht => (hpar t ht).1) (fun j t v h1 h2 => hval j t v (by simpa using h1) (by simpa using h2)) hA
  have hc := hcall ms t1 (phOf W) W (fun b => W.heap.size ≤ b) args.toList (fun b hb => hb) (by simp only [ArgsIn, hg, Bool.false_eq_true, if_false]; exact r1) (imm_phOf W)
  have hrun : (callFunc f args).run P W = .ok (.enter f args) W := by
    have hn2 : ¬ fn.name = "runtime.NumGoroutine" := by simpa using hname
    cases hb : fn.body with
    | none => rw [hb] at hbody; cases hbody
    | some b => simp [callFunc, hf, hn2, hb]
  unfold CallOK at hc
  rw [Array.toArray_toList, hrun] at hc
  refine hc.mono ?_
  rintro x W' ⟨v, rfl, φ', ht, himm, hr⟩
  have hvb : v = .bool true := by
    obtain ⟨_, hr⟩ := hr
    generalize hvs : [v] = vs at hr
    cases hr; simpa using hvs
  subst hvb
  have hbelow : Below W.heap.size W W' := ⟨ht.rest.1, ht.rest.2.1, ht.rest.2.2.1, ht.size, fun k hk => ht.heap k (by omega) hk⟩
  have hfn' := hfn (ds ++ []) (by simpa using hdl)
  refine ⟨_, rfl, ds, [], _, [], p, [], hW', ?_, ?_, ?_, hbelow.frame _, fun h => by cases h⟩
  · rw [hfn', hres]
    exact trodAll_mk1 (shut_bool htb _)
  · rw [hfn']
    simpa using trodAll_below hl hbelow (fun t ht => (hpar t ht).2) hA hlt
  · rw [hfn', hv]; rfl
end

theorem list_of {α : Type} {f : α → MV} {Q : α → Prop} {R : MV → Prop} {xs : List MV} (h : ∀ x, R x → ∃ y, x = f y ∧ Q y) (hx : ∀ x ∈ xs, R x) : ∃ L : List α, xs = L.map f ∧ ∀ y ∈ L, Q y := by
  induction xs with
  | nil => exact ⟨[], rfl, by simp⟩
  | cons x xs ih =>
    obtain ⟨y, rfl, hq⟩ := h x (hx x (by simp))
    obtain ⟨L, rfl, hL⟩ := ih fun z hz => hx z (by simp [hz])
    exact ⟨y :: L, rfl, by simp only [List.mem_cons]; rintro z (rfl | hz); exact hq; exact hL z hz⟩
end Dn
/-
  A program's type table, looked through. Conditions: none.
-/
set_option linter.unusedSimpArgs false
set_option linter.unusedVariables false
set_option linter.constructorNameAsVariable false
namespace Dn
open Go

theorem kdB_eq {a b : Kd} (h : kdB a b = true) : a = b := by
  cases a <;> cases b <;> simp [kdB, kB] at h <;> first | rfl | (subst h; rfl)
def isLay1 : List Kd → Kd → Bool
  | [k], k' => kdB k k'
  | _, _ => false
theorem isLayOne_eq {l : List Kd} {k : Kd} (h : isLay1 l k = true) : l = [k] := by
  cases l with
  | nil => simp [isLay1] at h
  | cons a l => cases l with
    | nil => simp only [isLay1] at h; rw [kdB_eq h]
    | cons => simp [isLay1] at h
def natsB : List Nat → List Nat → Bool
  | [], [] => true
  | a :: l, b :: m => Nat.beq a b && natsB l m
  | _, _ => false
theorem natsB_eq {l m : List Nat} (h : natsB l m = true) : l = m := by
  induction l generalizing m with
  | nil => cases m <;> simp [natsB] at h; rfl
  | cons a l ih =>
    cases m with
    | nil => simp [natsB] at h
    | cons b m =>
      simp only [natsB, Bool.and_eq_true] at h
      rw [Nat.eq_of_beq_eq_true h.1, ih h.2]
def nilB {α : Type} : List α → Bool
  | [] => true
  | _ => false
theorem nilB_eq {α : Type} {l : List α} (h : nilB l = true) : l = [] := by cases l <;> simp [nilB] at h; rfl
/-- a row that is there, of one value -/
def hasRow (ti : Nat → Option TI) (t : Nat) : Bool := match ti t with | some J => nilB J.comps && Nat.ble 1 J.size | none => false
theorem hasRow_ok {ti : Nat → Option TI} {t : Nat} (h : hasRow ti t = true) : ∃ J, ti t = some J ∧ J.comps = [] ∧ 0 < J.size := by
  unfold hasRow at h
  cases hJ : ti t with
  | none => simp [hJ] at h
  | some J =>
    simp only [hJ, Bool.and_eq_true] at h
    exact ⟨J, rfl, nilB_eq h.1, Nat.le_of_ble_eq_true h.2⟩
def zeroU8 : List Value → Nat → Bool
  | [], n => Nat.beq n 0
  | .int .u8 k :: r, n + 1 => decide (k = 0) && zeroU8 r n
  | _, _ => false
theorem zeroByte_eq {l : List Value} {n : Nat} (h : zeroU8 l n = true) : l = List.replicate n (.int .u8 0) := by
  induction l generalizing n with
  | nil => have := Nat.eq_of_beq_eq_true h; subst this; rfl
  | cons v l ih =>
    cases n with
    | zero => cases v <;> simp [zeroU8] at h
    | succ n =>
      unfold zeroU8 at h
      split at h
      · rename_i h1; simp at h1
      · rename_i k _ _ h1 h2
        simp only [List.cons.injEq] at h1
        obtain ⟨rfl, rfl⟩ := h1
        cases h2
        simp only [Bool.and_eq_true, decide_eq_true_eq] at h
        rw [h.1, ih h.2]; rfl
      · cases h
def leafIs : List Leaf → Leaf → Bool
  | [.nil], .nil => true
  | [.p (.b false)], .p (.b false) => true
  | [.p (.i k n)], .p (.i k' m) => kB k k' && decide (n = m)
  | [.p (.s [])], .p (.s []) => true
  | _, _ => false
theorem leafIs_eq {l : List Leaf} {x : Leaf} (h : leafIs l x = true) : l = [x] := by
  unfold leafIs at h
  split at h <;> first | rfl | skip
  · simp [kB] at h; rw [h.1, h.2]
  · cases h
def hashZ : List Leaf → Bool
  | [.hs x] => decide (x = Hash.zero)
  | _ => false
theorem hashZ_eq {l : List Leaf} (h : hashZ l = true) : l = [.hs Hash.zero] := by
  unfold hashZ at h
  split at h
  · rw [of_decide_eq_true h]
  · cases h

def rowDB (ti : Nat → Option TI) (P : Program) (I : TI) (z : Option Value) : TypeDesc → Bool
  | .struct fs => I.st && nilB I.comps && Nat.ble 1 I.size && Nat.beq (layW I.lay) I.size && natsB (fs.toList.map (·.offset)) I.flds && natsB (fs.toList.map (·.type)) I.ftys &&
      (fs.toList.all fun f => hasRow ti f.type) && (match z with | some (.agg cs) => leavesZ I.zero cs.toList && Nat.beq cs.size I.size | _ => false)
  | .tuple ts => natsB I.comps ts.toList && !nilB I.comps && nilB I.lay && !I.st
  | .slice el => !I.st && nilB I.comps && Nat.beq I.size 1 && Nat.beq I.elem el && hasRow ti el && (match z with | some (.slice none 0 0) => true | _ => false) && leafIs I.zero .nil && isLay1 I.lay .l
  | .array n el => !I.st && nilB I.comps && Nat.beq I.size 32 && Nat.beq n 32 && Nat.beq I.elem el && (match P.underlying el with | some (.int .u8) => true | _ => false) && (match P.info? el with | some i => Nat.beq i.size 1 | none => false) &&
      isLay1 I.lay .h && hashZ I.zero && (match z with | some (.agg cs) => zeroU8 cs.toList 32 | _ => false)
  | .bool => !I.st && nilB I.comps && Nat.beq I.size 1 && isLay1 I.lay .b && leafIs I.zero (.p (.b false)) && (match z with | some (.bool false) => true | _ => false)
  | .int k => !I.st && nilB I.comps && Nat.beq I.size 1 && isLay1 I.lay (.i k) && leafIs I.zero (.p (.i k 0)) && (match z with | some (.int k' n) => kB k' k && decide (n = 0) | _ => false)
  | .string => !I.st && nilB I.comps && Nat.beq I.size 1 && isLay1 I.lay .s && leafIs I.zero (.p (.s [])) && (match z with | some (.string b) => nilB b.data.toList | _ => false)
  | _ => !I.st && nilB I.comps && Nat.beq I.size 1 && isLay1 I.lay .raw && (match z with | some v => v.oneCell' && leavesZ I.zero [v] | none => false)
theorem rowDB_ok {ti : Nat → Option TI} {P : Program} {I : TI} {z : Option Value} {d : TypeDesc} (h : rowDB ti P I z d = true) : RowD ti P I z d := by
  cases d <;> simp only [rowDB, Bool.and_eq_true, Bool.not_eq_true'] at h <;> simp only [RowD]
  case struct fs =>
    obtain ⟨⟨⟨⟨⟨⟨⟨h1, h2⟩, h3⟩, h4⟩, h5⟩, h6⟩, h7⟩, h8⟩ := h
    refine ⟨h1, nilB_eq h2, ⟨Nat.le_of_ble_eq_true h3, Nat.eq_of_beq_eq_true h4⟩, natsB_eq h5, natsB_eq h6, fun k f hk => ?_, ?_⟩
    · exact hasRow_ok (List.all_eq_true.1 h7 f (by
        have : fs.toList[k]? = some f := by simpa using hk
        exact List.mem_of_getElem? this))
    · split at h8
      · rename_i cs
        simp only [Bool.and_eq_true] at h8
        exact ⟨cs, rfl, h8.1, Nat.eq_of_beq_eq_true h8.2⟩
      · cases h8
  case tuple ts =>
    obtain ⟨⟨⟨h1, h2⟩, h3⟩, h4⟩ := h
    exact ⟨natsB_eq h1, fun he => (by rw [he] at h2; simp [nilB] at h2), nilB_eq h3, h4⟩
  case slice el =>
    obtain ⟨⟨⟨⟨⟨⟨⟨h1, h2⟩, h3⟩, h4⟩, h5⟩, h6⟩, h7⟩, h8⟩ := h
    refine ⟨h1, nilB_eq h2, Nat.eq_of_beq_eq_true h3, Nat.eq_of_beq_eq_true h4, hasRow_ok h5, ?_, leafIs_eq h7, .l, isLayOne_eq h8, rfl⟩
    split at h6
    · rfl
    · cases h6
  case array n el =>
    obtain ⟨⟨⟨⟨⟨⟨⟨⟨⟨h1, h2⟩, h3⟩, h4⟩, h5⟩, h6⟩, h7⟩, h8⟩, h9⟩, h10⟩ := h
    refine ⟨h1, nilB_eq h2, Nat.eq_of_beq_eq_true h3, Nat.eq_of_beq_eq_true h4, Nat.eq_of_beq_eq_true h5, ?_, isLayOne_eq h8, hashZ_eq h9, ?_⟩
    · split at h6
      · rename_i hu
        split at h7
        · rename_i i hi; exact ⟨i, hu, hi, Nat.eq_of_beq_eq_true h7⟩
        · cases h7
      · cases h6
    · split at h10
      · rename_i cs
        have := zeroByte_eq h10
        congr 1
        congr 1
        apply Array.toList_inj.1
        rw [this]; rfl
      · cases h10
  case bool =>
    obtain ⟨⟨⟨⟨⟨h1, h2⟩, h3⟩, h4⟩, h5⟩, h6⟩ := h
    refine ⟨h1, nilB_eq h2, Nat.eq_of_beq_eq_true h3, isLayOne_eq h4, leafIs_eq h5, ?_⟩
    split at h6
    · rfl
    · cases h6
  case int k =>
    obtain ⟨⟨⟨⟨⟨h1, h2⟩, h3⟩, h4⟩, h5⟩, h6⟩ := h
    refine ⟨h1, nilB_eq h2, Nat.eq_of_beq_eq_true h3, isLayOne_eq h4, leafIs_eq h5, ?_⟩
    split at h6
    · simp only [kB, Bool.and_eq_true, decide_eq_true_eq] at h6
      rw [h6.1, h6.2]
    · cases h6
  case string =>
    obtain ⟨⟨⟨⟨⟨h1, h2⟩, h3⟩, h4⟩, h5⟩, h6⟩ := h
    refine ⟨h1, nilB_eq h2, Nat.eq_of_beq_eq_true h3, isLayOne_eq h4, leafIs_eq h5, ?_⟩
    split at h6
    · rename_i b; exact ⟨b, rfl, nilB_eq h6⟩
    · cases h6
  all_goals
    obtain ⟨⟨⟨⟨h1, h2⟩, h3⟩, h4⟩, h5⟩ := h
    refine ⟨h1, nilB_eq h2, Nat.eq_of_beq_eq_true h3, isLayOne_eq h4, ?_⟩
    split at h5
    · rename_i v
      simp only [Bool.and_eq_true] at h5
      exact ⟨v, rfl, h5.1, h5.2⟩
    · cases h5
def rowB (ti : Nat → Option TI) (P : Program) (t : Nat) (I : TI) : Bool :=
  match P.underlying t, P.info? t with
  | some d, some i => (!nilB I.comps || (Nat.beq i.size I.size && Nat.beq i.bytes I.bytes)) && rowDB ti P I i.zero d
  | _, _ => false
theorem rowB_ok {ti : Nat → Option TI} {P : Program} {t : Nat} {I : TI} (h : rowB ti P t I = true) : RowOK ti P t I := by
  unfold rowB at h
  split at h
  · rename_i d i hu hi
    simp only [Bool.and_eq_true, Bool.or_eq_true, Bool.not_eq_true'] at h
    refine ⟨d, i, hu, hi, fun hc => ?_, rowDB_ok h.2⟩
    rcases h.1 with h1 | h1
    · rw [hc] at h1; simp [nilB] at h1
    · exact ⟨Nat.eq_of_beq_eq_true h1.1, Nat.eq_of_beq_eq_true h1.2⟩
  · cases h

def lookT : List (Nat × TI) → Nat → Option TI
  | [], _ => none
  | (k, s) :: r, t => bif Nat.beq k t then some s else lookT r t
def tabB (P : Program) (tab : List (Nat × TI)) : Bool := tab.all fun p => rowB (lookT tab) P p.1 p.2
theorem lookT_mem {l : List (Nat × TI)} {t : Nat} {I : TI} (h : lookT l t = some I) : (t, I) ∈ l := by
  induction l with
  | nil => simp [lookT] at h
  | cons p l ih =>
    obtain ⟨k, s⟩ := p
    simp only [lookT, nbeq] at h
    by_cases hk : k = t
    · subst hk; simp at h; subst h; simp
    · simp only [hk, decide_false, cond_false] at h
      exact List.mem_cons_of_mem _ (ih h)
theorem tabB_ok {P : Program} {tab : List (Nat × TI)} (h : tabB P tab = true) : TIok P (lookT tab) := fun t I hI => rowB_ok (List.all_eq_true.1 h (t, I) (lookT_mem hI))

end Dn
/-
  Comparing values of plain types. Conditions: none.
-/
set_option linter.unusedSimpArgs false
set_option linter.unusedVariables false
set_option linter.constructorNameAsVariable false
namespace Dn
open Go

/-- kinds, cell by cell -/
def cks : List Kd → List Kd
  | [] => []
  | .h :: r => List.replicate 32 (.i .u8) ++ cks r
  | k :: r => k :: cks r
def fitC : Kd → Value → Bool
  | .b, .bool _ => true
  | .i k, .int k' _ => decide (k' = k)
  | .s, .string _ => true
  | _, _ => false
def fitCs : List Kd → List Value → Prop
  | [], vs => vs = []
  | k :: ks, vs => ∃ v r, vs = v :: r ∧ fitC k v = true ∧ fitCs ks r
def ceq : Value → Value → Bool
  | .bool a, .bool b => decide (a = b)
  | .int _ a, .int _ b => decide (a = b)
  | .string a, .string b => decide (a.data.toList = b.data.toList)
  | _, _ => false
def ceqs : List Value → List Value → Bool
  | [], [] => true
  | x :: xs, y :: ys => ceq x y && ceqs xs ys
  | _, _ => false
theorem ceqs_append {xs ys us vs : List Value} (h : xs.length = ys.length) : ceqs (xs ++ us) (ys ++ vs) = (ceqs xs ys && ceqs us vs) := by
  induction xs generalizing ys with
  | nil => cases ys with | nil => simp [ceqs] | cons => simp at h
  | cons x xs ih => cases ys with | nil => simp at h | cons y ys => simp only [List.cons_append, ceqs, ih (by simpa using h), Bool.and_assoc]
theorem fitCs.length {ks : List Kd} : ∀ {vs : List Value}, fitCs ks vs → vs.length = ks.length := by
  induction ks with
  | nil => intro vs h; cases h; rfl
  | cons k ks ih => intro vs h; obtain ⟨v, r, rfl, _, h2⟩ := h; simp [ih h2]
theorem fitCs.append {ks js : List Kd} : ∀ {vs us : List Value}, fitCs ks vs → fitCs js us → fitCs (ks ++ js) (vs ++ us) := by
  induction ks with
  | nil => intro vs us h h'; cases h; simpa using h'
  | cons k ks ih => intro vs us h h'; obtain ⟨v, r, rfl, h1, h2⟩ := h; exact ⟨v, r ++ us, rfl, h1, ih h2 h'⟩
theorem fitCs.split {ks js : List Kd} : ∀ {vs : List Value}, fitCs (ks ++ js) vs → fitCs ks (vs.take ks.length) ∧ fitCs js (vs.drop ks.length) := by
  induction ks with
  | nil => intro vs h; exact ⟨by simp [fitCs], by simpa using h⟩
  | cons k ks ih =>
    intro vs h
    obtain ⟨v, r, rfl, h1, h2⟩ := h
    obtain ⟨h3, h4⟩ := ih h2
    exact ⟨⟨v, _, rfl, h1, h3⟩, by simpa using h4⟩

theorem fitCs_hash (x : Hash) : fitCs (List.replicate 32 (.i .u8)) (hcells x) := by
  have : ∀ (l : List UInt8), fitCs (List.replicate l.length (.i .u8)) (l.map fun b => Value.int .u8 (b.toNat : Int)) := by
    intro l
    induction l with
    | nil => rfl
    | cons b l ih => exact ⟨_, _, rfl, by simp [fitC], ih⟩
  have h := this x.l
  rw [x.h] at h
  exact h
theorem ceqs_hash (x y : Hash) : ceqs (hcells x) (hcells y) = decide (x = y) := by
  have : ∀ (l m : List UInt8), l.length = m.length → ceqs (l.map fun b => Value.int .u8 (b.toNat : Int)) (m.map fun b => Value.int .u8 (b.toNat : Int)) = decide (l = m) := by
    intro l
    induction l with
    | nil => intro m h; cases m with | nil => rfl | cons => simp at h
    | cons b l ih =>
      intro m h
      cases m with
      | nil => simp at h
      | cons b' m =>
        simp only [List.map_cons, ceqs, ceq, ih m (by simpa using h), List.cons.injEq]
        have : ((b.toNat : Int) = (b'.toNat : Int)) ↔ b = b' := by
          constructor
          · intro he; apply UInt8.toNat_inj.1; omega
          · intro he; rw [he]
        simp [this]
  rw [hcells, hcells, this x.l y.l (by rw [x.h, y.h])]
  by_cases h : x = y
  · subst h; simp
  · have : x.l ≠ y.l := fun he => h (Hash.ext' he)
    simp [h, this]

section
variable {e : Env}
theorem fit_cells {lay : List Kd} : ∀ {ls : List Leaf} {vs : List Value}, LeavesRep e vs ls → fitLs lay ls = true → fitCs (cks lay) vs := by
  induction lay with
  | nil =>
    intro ls vs h hf
    cases ls with
    | nil => cases h; rfl
    | cons => simp [fitLs] at hf
  | cons k lay ih =>
    intro ls vs h hf
    cases ls with
    | nil => simp [fitLs] at hf
    | cons l ls =>
      simp only [fitLs] at hf
      cases h1 : fitL k l with
      | false => simp [h1] at hf
      | true =>
        simp only [h1, cond_true] at hf
        obtain ⟨v, u, rfl, g1, g2⟩ := h
        have hr := ih g2 hf
        have one : ∀ m : MV, ∀ kd : Kd, l = .p m → (∀ w : List Value, Rep e.key e.φ w m → ∃ x, w = [x] ∧ fitC kd x = true) → fitCs (kd :: cks lay) (v ++ u) := by
          intro m kd hl hm
          subst hl
          obtain ⟨x, rfl, hx⟩ := hm v g1.2
          exact ⟨x, u, rfl, hx, hr⟩
        cases k <;> cases l <;> simp only [fitL] at h1 <;> try (cases h1; done)
        · rename_i m
          cases m <;> simp only [fitL] at h1 <;> try (cases h1; done)
          exact one _ _ rfl (fun w hw => by cases hw; exact ⟨_, rfl, rfl⟩)
        · rename_i k m
          cases m <;> simp only [fitL] at h1 <;> try (cases h1; done)
          exact one _ _ rfl (fun w hw => by cases hw; exact ⟨_, rfl, h1⟩)
        · rename_i m
          cases m <;> simp only [fitL] at h1 <;> try (cases h1; done)
          exact one _ _ rfl (fun w hw => by cases hw; exact ⟨_, rfl, rfl⟩)
        · rename_i x
          have g1 : v = hcells x := g1
          subst g1
          exact (fitCs_hash x).append hr
theorem eq_leaf_cells {l l' : Leaf} {v v' : List Value} {b : Bool} (h : LeafRep e v l) (h' : LeafRep e v' l') (hb : eqLeaf l l' = some b) : ceqs v v' = b ∧ v.length = v'.length := by
  unfold eqLeaf at hb
  split at hb
  · obtain ⟨_, h⟩ := h; obtain ⟨_, h'⟩ := h'
    cases h; cases h'
    simp at hb; exact ⟨by simp [ceqs, ceq, ← hb], rfl⟩
  · obtain ⟨_, h⟩ := h; obtain ⟨_, h'⟩ := h'
    cases h; cases h'
    rename_i k x k' y _ _
    cases hk : decide (k = k') with
    | false => simp [hk] at hb
    | true => simp [hk] at hb; exact ⟨by simp [ceqs, ceq, ← hb], rfl⟩
  · obtain ⟨_, h⟩ := h; obtain ⟨_, h'⟩ := h'
    cases h; cases h'
    simp at hb; exact ⟨by simp [ceqs, ceq, ← hb], rfl⟩
  · rename_i x y
    have h : v = hcells x := h
    have h' : v' = hcells y := h'
    subst h; subst h'
    simp at hb
    exact ⟨by rw [ceqs_hash, ← hb], by rw [hcells_length, hcells_length]⟩
  · cases hb
theorem eq_cells {ls : List Leaf} : ∀ {ls' : List Leaf} {vs vs' : List Value} {b : Bool}, LeavesRep e vs ls → LeavesRep e vs' ls' → eqLeaves ls ls' = some b → ceqs vs vs' = b := by
  induction ls with
  | nil =>
    intro ls' vs vs' b h h' hb
    cases ls' with
    | nil => cases h; cases h'; simp [eqLeaves] at hb; subst hb; rfl
    | cons l' ls' => simp [eqLeaves] at hb
  | cons l ls ih =>
    intro ls' vs vs' b h h' hb
    cases ls' with
    | nil => simp [eqLeaves] at hb
    | cons l' ls' =>
      obtain ⟨v, u, rfl, h1, h2⟩ := h
      obtain ⟨v', u', rfl, h1', h2'⟩ := h'
      have two : ∀ x y, eqLeaf l l' = some x → eqLeaves ls ls' = some y → b = (x && y) → ceqs (v ++ u) (v' ++ u') = b := by
        intro x y hx hy hxy
        obtain ⟨g1, g2⟩ := eq_leaf_cells h1 h1' hx
        rw [ceqs_append g2, g1, ih h2 h2' hy, hxy]
      cases ls with
      | nil =>
        cases ls' with
        | nil =>
          have hb : eqLeaf l l' = some b := hb
          exact two b true hb rfl (by simp)
        | cons p q =>
          simp only [eqLeaves] at hb
          split at hb
          · rename_i x y hx hy; exact two x y hx hy (by simpa using hb.symm)
          · cases hb
      | cons p q =>
        simp only [eqLeaves] at hb
        split at hb
        · rename_i x y hx hy; exact two x y hx hy (by simpa using hb.symm)
        · cases hb
end

/-- the kinds of a type's cells -/
def kindsF (F : TypeId → Option (List Kd)) (P : Program) : List Field → Nat → Nat → Option (List Kd)
  | [], o, n => bif Nat.beq o n then some [] else none
  | f :: fs, o, n => match F f.type with
    | some ks => bif Nat.beq f.offset o && Nat.beq ks.length (P.cellsOf f.type) && !(f.name == "_") then (match kindsF F P fs (o + ks.length) n with | some r => some (ks ++ r) | none => none) else none
    | none => none
def repK : Nat → List Kd → List Kd
  | 0, _ => []
  | n + 1, ks => ks ++ repK n ks
def kindsAt (P : Program) : Nat → TypeId → Option (List Kd)
  | 0, _ => none
  | d + 1, t => match P.underlying t with
    | some .bool => some [.b]
    | some (.int k) => some [.i k]
    | some .string => some [.s]
    | some (.array n e) => match kindsAt P d e with
      | some ks => bif Nat.beq ks.length (P.cellsOf e) && (match P.info? e with | some _ => true | none => false) then some (repK n ks) else none
      | none => none
    | some (.struct fs) => bif P.stoodInHeld t then none else kindsF (kindsAt P d) P fs.toList 0 (P.cellsOf t)
    | _ => none
def aggD : TypeDesc → Bool
  | .struct _ => true
  | .array _ _ => true
  | _ => false
theorem kindsF_len {F : TypeId → Option (List Kd)} {P : Program} : ∀ (fs : List Field) (o n : Nat) (ks : List Kd), kindsF F P fs o n = some ks → o + ks.length = n := by
  intro fs
  induction fs with
  | nil =>
    intro o n ks hk
    simp only [kindsF] at hk
    cases hb : Nat.beq o n with
    | false => simp [hb] at hk
    | true => simp [hb] at hk; subst hk; simpa using Nat.eq_of_beq_eq_true hb
  | cons f fs ihf =>
    intro o n ks hk
    simp only [kindsF] at hk
    cases hf : F f.type with
    | none => simp [hf] at hk
    | some js =>
      simp only [hf] at hk
      cases hc : Nat.beq f.offset o && Nat.beq js.length (P.cellsOf f.type) && !(f.name == "_") with
      | false => simp [hc] at hk
      | true =>
        simp only [hc, cond_true] at hk
        cases hr : kindsF F P fs (o + js.length) n with
        | none => simp [hr] at hk
        | some rs =>
          simp only [hr, Option.some.injEq] at hk
          subst hk
          have := ihf _ _ _ hr
          simp only [List.length_append]; omega
/-- a value, and its cells -/
def Wrap (P : Program) (t : TypeId) (v : Value) (cs : List Value) : Prop :=
  match P.underlying t with
  | some (.struct _) | some (.array _ _) => v = .agg cs.toArray
  | _ => cs = [v]
theorem repK_length (n : Nat) (ks : List Kd) : (repK n ks).length = n * ks.length := by
  induction n with
  | zero => simp [repK]
  | succ n ih => simp only [repK, List.length_append, ih, Nat.succ_mul]; omega

section
variable {P : Program} {w : World}
theorem part_wrap {t : TypeId} {xs : Array Value} {off : Nat} {n : Nat} {d : TypeDesc} (hu : P.underlying t = some d) (hn : P.cellsOf t = n) (hone : aggD d = false → n = 1) (hl : off + n ≤ xs.size) :
    ∃ v, (Go.part t xs off).run P w = .ok v w ∧ Wrap P t v ((xs.toList.drop off).take n) := by
  obtain ⟨i, hi⟩ := info_of_underlying hu
  have hsz : i.size = n := by rw [← hn]; simp [Program.cellsOf, hi]
  cases hd : aggD d with
  | true =>
    refine ⟨.agg (xs.extract off (off + n)), ?_, ?_⟩
    · cases d <;> simp [aggD] at hd <;> simp [Go.part, isAgg, run_underlying hu, Go.sizeOf, typeInfo, hi, hsz]
    · have he : (xs.extract off (off + n)) = ((xs.toList.drop off).take n).toArray := by
        apply Array.toList_inj.1
        rw [Array.toList_extract]; simp [List.extract]
      unfold Wrap
      cases d <;> simp [aggD] at hd <;> simp only [hu] <;> rw [he]
  | false =>
    have hn1 := hone hd
    subst hn1
    have hlt : off < xs.size := by omega
    refine ⟨xs[off], ?_, ?_⟩
    · cases d <;> simp [aggD] at hd <;> simp [Go.part, isAgg, run_underlying hu, hlt]
    · have he : (xs.toList.drop off).take 1 = [xs[off]] := by
        rw [List.take_one, List.head?_drop]; simp [hlt]
      unfold Wrap
      cases d <;> simp [aggD] at hd <;> simp only [hu] <;> exact he

theorem fields_eq {F : TypeId → Option (List Kd)} {dd : Nat} {xs ys : Array Value} : ∀ (fs : List Field) (o n : Nat) (ks : List Kd), kindsF F P fs o n = some ks → xs.size = n → ys.size = n → fitCs ks (xs.toList.drop o) → fitCs ks (ys.toList.drop o) →
    (∀ f ∈ fs, ∀ js, F f.type = some js → (∃ d, P.underlying f.type = some d ∧ (aggD d = false → js.length = 1)) ∧
      ∀ (x y : Value) (us vs : List Value), Wrap P f.type x us → Wrap P f.type y vs → fitCs js us → fitCs js vs → (Op.equalIn dd f.type x y).run P w = .ok (ceqs us vs) w) →
    (Op.eqFields dd xs ys fs).run P w = .ok (ceqs (xs.toList.drop o) (ys.toList.drop o)) w := by
  intro fs
  induction fs with
  | nil =>
    intro o n ks hk hx hy _ _ _
    simp only [kindsF] at hk
    cases hb : Nat.beq o n with
    | false => simp [hb] at hk
    | true =>
      have hb := Nat.eq_of_beq_eq_true hb
      have h1 : xs.toList.drop o = [] := List.drop_eq_nil_of_le (by simp [hx, hb])
      have h2 : ys.toList.drop o = [] := List.drop_eq_nil_of_le (by simp [hy, hb])
      rw [h1, h2]
      simp [Op.eqFields, ceqs]
  | cons f fs ih =>
    intro o n ks hk hx hy fx fy hF
    simp only [kindsF] at hk
    cases hf : F f.type with
    | none => simp [hf] at hk
    | some js =>
      simp only [hf] at hk
      cases hc : Nat.beq f.offset o && Nat.beq js.length (P.cellsOf f.type) && !(f.name == "_") with
      | false => simp [hc] at hk
      | true =>
        simp only [hc, cond_true] at hk
        simp only [Bool.and_eq_true, Bool.not_eq_true'] at hc
        obtain ⟨⟨h1, h2⟩, h3⟩ := hc
        have h1 := Nat.eq_of_beq_eq_true h1
        have h2 := Nat.eq_of_beq_eq_true h2
        have h3 : f.name ≠ "_" := by intro he; rw [he] at h3; simp at h3
        cases hr : kindsF F P fs (o + js.length) n with
        | none => simp [hr] at hk
        | some rs =>
          simp only [hr, Option.some.injEq] at hk
          subst hk
          obtain ⟨fx1, fx2⟩ := fx.split
          obtain ⟨fy1, fy2⟩ := fy.split
          rw [List.drop_drop] at fx2 fy2
          have lx := fx.length
          have ly := fy.length
          simp only [List.length_drop, List.length_append, Array.length_toList] at lx ly
          obtain ⟨⟨d, hu, hone⟩, heq⟩ := hF f (by simp) js hf
          by_cases hz : o + js.length ≤ xs.size ∧ o + js.length ≤ ys.size
          · obtain ⟨x, px, wx⟩ := part_wrap (w := w) (xs := xs) (off := f.offset) hu h2.symm hone (by rw [h1]; exact hz.1)
            obtain ⟨y, py, wy⟩ := part_wrap (w := w) (xs := ys) (off := f.offset) hu h2.symm hone (by rw [h1]; exact hz.2)
            rw [h1] at wx wy
            have he := heq x y _ _ wx wy fx1 fy1
            have hrest := ih (o + js.length) n rs hr hx hy fx2 fy2 (fun g hg => hF g (by simp [hg]))
            simp only [Op.eqFields, h3, ne_eq, not_false_eq_true, if_true, Sem.run_bind, px, py, he, Result.andThen_ok]
            have hsplit : ceqs (xs.toList.drop o) (ys.toList.drop o) = (ceqs ((xs.toList.drop o).take js.length) ((ys.toList.drop o).take js.length) && ceqs (xs.toList.drop (o + js.length)) (ys.toList.drop (o + js.length))) := by
              rw [← List.drop_drop, ← List.drop_drop, ← ceqs_append (by rw [fx1.length, fy1.length]), List.take_append_drop, List.take_append_drop]
            rw [hsplit]
            cases ceqs ((xs.toList.drop o).take js.length) ((ys.toList.drop o).take js.length)
            · simp
            · simpa using hrest
          · exfalso
            have := kindsF_len _ _ _ _ hr
            omega

theorem items_eq {e : TypeId} {dd : Nat} {xs ys : Array Value} {js : List Kd} (hjl : js.length = P.cellsOf e) (hd : ∃ d, P.underlying e = some d ∧ (aggD d = false → js.length = 1))
    (heq : ∀ (x y : Value) (us vs : List Value), Wrap P e x us → Wrap P e y vs → fitCs js us → fitCs js vs → (Op.equalIn dd e x y).run P w = .ok (ceqs us vs) w) :
    ∀ (m i : Nat), xs.size = (i + m) * js.length → ys.size = (i + m) * js.length → fitCs (repK m js) (xs.toList.drop (i * js.length)) → fitCs (repK m js) (ys.toList.drop (i * js.length)) →
    (Op.eqItems dd e (P.cellsOf e) xs ys (List.range' i m)).run P w = .ok (ceqs (xs.toList.drop (i * js.length)) (ys.toList.drop (i * js.length))) w := by
  intro m
  induction m with
  | zero =>
    intro i hx hy _ _
    have h1 : xs.toList.drop (i * js.length) = [] := List.drop_eq_nil_of_le (by simp [hx])
    have h2 : ys.toList.drop (i * js.length) = [] := List.drop_eq_nil_of_le (by simp [hy])
    rw [h1, h2]
    simp [Op.eqItems, ceqs]
  | succ m ih =>
    intro i hx hy fx fy
    simp only [repK] at fx fy
    obtain ⟨fx1, fx2⟩ := fx.split
    obtain ⟨fy1, fy2⟩ := fy.split
    have hmul : i * js.length + js.length = (i + 1) * js.length := by rw [Nat.succ_mul]
    rw [List.drop_drop, hmul] at fx2 fy2
    obtain ⟨d, hu, hone⟩ := hd
    have hle : (i + 1) * js.length ≤ (i + (m + 1)) * js.length := Nat.mul_le_mul_right _ (by omega)
    obtain ⟨x, px, wx⟩ := part_wrap (w := w) (xs := xs) (off := i * js.length) hu hjl.symm hone (by omega)
    obtain ⟨y, py, wy⟩ := part_wrap (w := w) (xs := ys) (off := i * js.length) hu hjl.symm hone (by omega)
    have he := heq x y _ _ wx wy fx1 fy1
    have hrest := ih (i + 1) (by rw [hx]; congr 1; omega) (by rw [hy]; congr 1; omega) fx2 fy2
    rw [List.range'_succ]
    simp only [Op.eqItems, Sem.run_bind, ← hjl, px, py, he, Result.andThen_ok]
    have hsplit : ceqs (xs.toList.drop (i * js.length)) (ys.toList.drop (i * js.length)) = (ceqs ((xs.toList.drop (i * js.length)).take js.length) ((ys.toList.drop (i * js.length)).take js.length) && ceqs (xs.toList.drop ((i + 1) * js.length)) (ys.toList.drop ((i + 1) * js.length))) := by
      rw [← hmul, ← List.drop_drop, ← List.drop_drop, ← ceqs_append (by rw [fx1.length, fy1.length]), List.take_append_drop, List.take_append_drop]
    rw [hsplit]
    cases ceqs ((xs.toList.drop (i * js.length)).take js.length) ((ys.toList.drop (i * js.length)).take js.length)
    · simp
    · rw [← hjl] at hrest; simpa using hrest

theorem kinds_one : ∀ (d : Nat) (t : TypeId) (ks : List Kd), kindsAt P d t = some ks → ∃ k, P.underlying t = some k ∧ (aggD k = false → ks.length = 1) := by
  intro d t ks h
  cases d with
  | zero => simp [kindsAt] at h
  | succ d =>
    simp only [kindsAt] at h
    cases hu : P.underlying t with
    | none => simp [hu] at h
    | some k =>
      refine ⟨k, rfl, fun ha => ?_⟩
      cases k <;> simp only [hu] at h <;> first
        | (simp only [Option.some.injEq] at h; subst h; rfl)
        | (cases h; done)
        | (simp [aggD] at ha; done)
theorem equal_cells : ∀ (d : Nat) (t : TypeId) (ks : List Kd), kindsAt P d t = some ks → ∀ (m : Nat) (x y : Value) (us vs : List Value), Wrap P t x us → Wrap P t y vs → fitCs ks us → fitCs ks vs →
    (Op.equalIn (m + d) t x y).run P w = .ok (ceqs us vs) w := by
  intro d
  induction d with
  | zero => intro t ks h; simp [kindsAt] at h
  | succ d ih =>
    intro t ks h m x y us vs hx hy fx fy
    simp only [kindsAt] at h
    have hmd : m + (d + 1) = (m + d) + 1 := rfl
    rw [hmd]
    cases hu : P.underlying t with
    | none => simp [hu] at h
    | some k =>
      cases k <;> simp only [hu] at h <;> try (cases h; done)
      case bool =>
        simp only [Option.some.injEq] at h; subst h
        simp only [Wrap, hu] at hx hy
        subst hx; subst hy
        obtain ⟨v, r, h1, h2, h3⟩ := fx
        obtain ⟨v', r', h1', h2', h3'⟩ := fy
        simp at h1 h1'
        obtain ⟨rfl, _⟩ := h1
        obtain ⟨rfl, _⟩ := h1'
        cases x <;> simp [fitC] at h2
        cases y <;> simp [fitC] at h2'
        rename_i a b
        rw [run_equalIn_bool' w _ t a b hu]
        simp [ceqs, ceq]
        cases a <;> cases b <;> rfl
      case int k =>
        simp only [Option.some.injEq] at h; subst h
        simp only [Wrap, hu] at hx hy
        subst hx; subst hy
        obtain ⟨v, r, h1, h2, h3⟩ := fx
        obtain ⟨v', r', h1', h2', h3'⟩ := fy
        simp at h1 h1'
        obtain ⟨rfl, _⟩ := h1
        obtain ⟨rfl, _⟩ := h1'
        cases x <;> simp [fitC] at h2
        cases y <;> simp [fitC] at h2'
        subst h2; subst h2'
        rw [run_equalIn_int w _ t _ _ _ _ hu]
        simp only [ceqs, ceq, Bool.and_true]
        congr 1
      case string =>
        simp only [Option.some.injEq] at h; subst h
        simp only [Wrap, hu] at hx hy
        subst hx; subst hy
        obtain ⟨v, r, h1, h2, h3⟩ := fx
        obtain ⟨v', r', h1', h2', h3'⟩ := fy
        simp at h1 h1'
        obtain ⟨rfl, _⟩ := h1
        obtain ⟨rfl, _⟩ := h1'
        cases x <;> simp [fitC] at h2
        cases y <;> simp [fitC] at h2'
        rw [run_equalIn_string w _ t _ _ hu]
        simp only [ceqs, ceq, Bool.and_true, toList_data]
        congr 1
        exact Bool.beq_eq_decide_eq _ _
      case array n e =>
        cases hke : kindsAt P d e with
        | none => simp [hke] at h
        | some js =>
          simp only [hke] at h
          cases hc : Nat.beq js.length (P.cellsOf e) && (match P.info? e with | some _ => true | none => false) with
          | false => simp [hc] at h
          | true =>
            simp only [hc, cond_true, Option.some.injEq] at h
            subst h
            simp only [Bool.and_eq_true] at hc
            have hjl := Nat.eq_of_beq_eq_true hc.1
            obtain ⟨i, hi⟩ : ∃ i, P.info? e = some i := by
              cases hi : P.info? e with
              | none => rw [hi] at hc; simp at hc
              | some i => exact ⟨i, rfl⟩
            simp only [Wrap, hu] at hx hy
            subst hx; subst hy
            rw [run_equalIn_array w (m + d) us.toArray vs.toArray hu hi, List.range_eq_range']
            have l1 := fx.length
            have l2 := fy.length
            rw [repK_length] at l1 l2
            have := items_eq (w := w) (xs := us.toArray) (ys := vs.toArray) (js := js) (dd := m + d) hjl (kinds_one d e js hke) (fun x y us vs a b c d' => ih e js hke m x y us vs a b c d') n 0 (by simpa using l1) (by simpa using l2) (by simpa using fx) (by simpa using fy)
            simpa using this
      case struct fs =>
        cases hst : P.stoodInHeld t with
        | true => simp [hst] at h
        | false =>
          simp only [hst, cond_false] at h
          simp only [Wrap, hu] at hx hy
          subst hx; subst hy
          have hfs : P.fieldsOf t = fs := by simp [Program.fieldsOf, hu]
          rw [run_equalIn_struct w (m + d) t us.toArray vs.toArray (by rw [hfs]; exact hu) hst, hfs]
          have hl := kindsF_len _ _ _ _ h
          have := fields_eq (w := w) (dd := m + d) (xs := us.toArray) (ys := vs.toArray) fs.toList 0 (P.cellsOf t) ks h (by simp [fx.length]; omega) (by simp [fy.length]; omega) (by simpa using fx) (by simpa using fy)
            (fun f hf js hjs => ⟨kinds_one d f.type js hjs, fun x y us vs a b c d' => ih f.type js hjs m x y us vs a b c d'⟩)
          simpa using this
end

theorem kdsB_eq {l m : List Kd} (h : kdsB l m = true) : l = m := by
  induction l generalizing m with
  | nil => cases m <;> simp [kdsB] at h; rfl
  | cons a l ih =>
    cases m with
    | nil => simp [kdsB] at h
    | cons b m =>
      simp only [kdsB, Bool.and_eq_true] at h
      rw [kdB_eq h.1, ih h.2]
def plainK : List Kd → Bool
  | [] => true
  | .l :: _ => false
  | .raw :: _ => false
  | _ :: r => plainK r
def eqB (P : Program) (t : Nat) (I : TI) : Bool :=
  !plainK I.lay || !nilB I.comps || ((match kindsAt P 20 t with | some ks => kdsB ks (cks I.lay) | none => false) && !P.eqGuardType P.depth t &&
    (match P.underlying t with | some (.struct _) => I.st | some (.array _ _) => !I.st && isLay1 I.lay .h | some .bool => !I.st && isLay1 I.lay .b | some (.int k) => !I.st && isLay1 I.lay (.i k) | some .string => !I.st && isLay1 I.lay .s | _ => false))
def eqTabB (P : Program) (tab : List (Nat × TI)) : Bool := tab.all fun p => eqB P p.1 p.2
theorem fit_plain {lay : List Kd} : ∀ {ls : List Leaf}, fitLs lay ls = true → plainK lay = true := by
  induction lay with
  | nil => intro ls _; rfl
  | cons k lay ih =>
    intro ls h
    cases ls with
    | nil => simp [fitLs] at h
    | cons l ls =>
      simp only [fitLs] at h
      cases h1 : fitL k l with
      | false => simp [h1] at h
      | true =>
        simp only [h1, cond_true] at h
        have := ih h
        cases k <;> first | exact this | (cases l <;> simp [fitL] at h1)
theorem binOp_gen {t : TypeId} {x y : Value} (h : (∃ b, x = .bool b) ∨ ∃ cs, x = .agg cs) (op : BinOp) :
    (op = .eql → binOp op t x y = (do pure (.bool (← Op.equal t x y)))) ∧ (op = .neq → binOp op t x y = (do pure (.bool (!(← Op.equal t x y))))) := by
  rcases h with ⟨b, rfl⟩ | ⟨cs, rfl⟩ <;> refine ⟨?_, ?_⟩ <;> rintro rfl <;> cases y <;> rfl
theorem eqTabB_ok {P : Program} {tab : List (Nat × TI)} (h : eqTabB P tab = true) : EqOK P (lookT tab) := by
  intro t I hI hc e w vx vy sx sy b rx ry fx fy shx shy hb n1 n2
  have hr := List.all_eq_true.1 h (t, I) (lookT_mem hI)
  simp only [eqB, fit_plain fx, Bool.not_true, Bool.false_or] at hr
  rw [hc] at hr
  simp only [nilB, Bool.not_true, Bool.false_or, Bool.and_eq_true, Bool.not_eq_true'] at hr
  obtain ⟨⟨hk, hg⟩, hd⟩ := hr
  cases hks : kindsAt P 20 t with
  | none => simp [hks] at hk
  | some ks =>
    simp only [hks] at hk
    have hk := kdsB_eq hk
    subst hk
    -- the cells of both
    have cells : ∀ (v : Value) (s : Slot), SlotRep e v s → fitLs I.lay (slotLeaves s) = true → shapeB I.st s = true → (∃ us, Wrap P t v us ∧ LeavesRep e us (slotLeaves s)) ∧ ((∃ b, v = .bool b) ∨ (∃ cs, v = .agg cs) ∨ (∃ k n, s = .sc (.p (.i k n))) ∨ ∃ l, s = .sc (.p (.s l))) := by
      intro v s hv hf hs
      cases s <;> simp only [shapeB] at hs <;> try (cases hs; done)
      · rename_i l
        have hst : I.st = false := by simpa using hs
        cases hu : P.underlying t with
        | none => simp [hu] at hd
        | some d =>
          simp only [hu] at hd
          cases d <;> simp only [hst, Bool.not_false, Bool.true_and] at hd <;> try (cases hd; done)
          · have hl := isLayOne_eq hd
            rw [hl] at hf
            simp only [slotLeaves, fitLs] at hf
            cases l <;> simp [fitL] at hf
            rename_i m
            cases m <;> simp [fitL] at hf
            have := rep_b hv
            exact ⟨⟨[v], by simp [Wrap, hu], [v], [], rfl, hv, rfl⟩, .inl ⟨_, this⟩⟩
          · have hl := isLayOne_eq hd
            rw [hl] at hf
            simp only [slotLeaves, fitLs] at hf
            cases l <;> simp [fitL] at hf
            rename_i m
            cases m <;> simp [fitL] at hf
            exact ⟨⟨[v], by simp [Wrap, hu], [v], [], rfl, hv, rfl⟩, .inr (.inr (.inl ⟨_, _, rfl⟩))⟩
          · have hl := isLayOne_eq hd
            rw [hl] at hf
            simp only [slotLeaves, fitLs] at hf
            cases l <;> simp [fitL] at hf
            rename_i m
            cases m <;> simp [fitL] at hf
            exact ⟨⟨[v], by simp [Wrap, hu], [v], [], rfl, hv, rfl⟩, .inr (.inr (.inr ⟨_, rfl⟩))⟩
          · have hl := isLayOne_eq hd
            rw [hl] at hf
            simp only [slotLeaves, fitLs] at hf
            cases l <;> simp [fitL] at hf
            rename_i x
            have hv : v = .agg (hcells x).toArray := hv
            exact ⟨⟨hcells x, by simp [Wrap, hu, hv], hcells x, [], by simp, rfl, rfl⟩, .inr (.inl ⟨_, hv⟩)⟩
      · rename_i cs
        cases hu : P.underlying t with
        | none => simp [hu] at hd
        | some d =>
          simp only [hu] at hd
          cases d <;> simp only [hs, Bool.not_true, Bool.false_and] at hd <;> try (cases hd; done)
          obtain ⟨arr, hv, hlv⟩ := hv
          exact ⟨⟨arr.toList, by simp [Wrap, hu, hv], hlv⟩, .inr (.inl ⟨_, hv⟩)⟩
    obtain ⟨⟨us, wx, lx⟩, kx⟩ := cells vx sx rx fx shx
    obtain ⟨⟨vs, wy, ly⟩, ky⟩ := cells vy sy ry fy shy
    have heq : (Op.equal t vx vy).run P w = .ok b w := by
      have := equal_cells (P := P) (w := w) 20 t _ hks 9980 vx vy us vs wx wy (fit_cells lx fx) (fit_cells ly fy)
      rw [eq_cells lx ly hb] at this
      exact this
    refine ⟨heq, fun x y op => ?_⟩
    have hxk : (∃ b, vx = .bool b) ∨ ∃ cs, vx = .agg cs := by
      rcases kx with h1 | h1 | ⟨k, n, h1⟩ | ⟨l, h1⟩
      · exact .inl h1
      · exact .inr h1
      · exfalso
        -- both are numbers
        subst h1
        cases hu : P.underlying t with
        | none => simp [hu] at hd
        | some d =>
          simp only [slotLeaves] at fx fy hb
          cases hlay : I.lay with
          | nil => rw [hlay] at fx; simp [fitLs] at fx
          | cons k0 r0 =>
            rw [hlay] at fx fy
            simp only [fitLs] at fx
            cases k0 <;> simp [fitL] at fx
            obtain ⟨hk0, hr0⟩ := fx
            have hr0 : r0 = [] := by cases r0 <;> simp [fitLs] at hr0; rfl
            subst hr0
            cases sy <;> simp only [shapeB] at shx shy <;> try (cases shy; done)
            · rename_i l
              simp only [slotLeaves, fitLs] at fy
              cases l <;> simp [fitL] at fy
              rename_i m
              cases m <;> simp [fitL] at fy
              exact n1 _ _ _ _ rfl rfl
            · rw [shy] at shx; cases shx
      · exfalso
        subst h1
        simp only [slotLeaves] at fx fy hb
        cases hlay : I.lay with
        | nil => rw [hlay] at fx; simp [fitLs] at fx
        | cons k0 r0 =>
          rw [hlay] at fx fy
          simp only [fitLs] at fx
          cases k0 <;> simp [fitL] at fx
          have hr0 : r0 = [] := by cases r0 <;> simp [fitLs] at fx; rfl
          subst hr0
          cases sy <;> simp only [shapeB] at shx shy <;> try (cases shy; done)
          · rename_i l
            simp only [slotLeaves, fitLs] at fy
            cases l <;> simp [fitL] at fy
            rename_i m
            cases m <;> simp [fitL] at fy
            exact n2 _ _ rfl rfl
          · rw [shy] at shx; cases shx
    refine ⟨?_, binOp_gen hxk op⟩
    have hg' : P.eqGuardType P.depth t = false := hg
    rcases hxk with ⟨bb, rfl⟩ | ⟨cs, rfl⟩
    · cases op <;> rfl
    · cases vy <;> cases op <;> first | rfl | (simp [eqGuard, hg'])

end Dn
/-
  A program's types of maps, looked through. Conditions: none.
-/
set_option linter.unusedSimpArgs false
set_option linter.unusedVariables false
set_option linter.constructorNameAsVariable false
namespace Dn
open Go

theorem mvs_fit {lay : List Kd} : ∀ {ks : List MV}, fitMs lay ks = true → fitCs (cks lay) (ks.flatMap mvV) := by
  induction lay with
  | nil => intro ks h; cases ks with | nil => rfl | cons => simp [fitMs] at h
  | cons k lay ih =>
    intro ks h
    cases ks with
    | nil => simp [fitMs] at h
    | cons m ks =>
      simp only [fitMs, Bool.and_eq_true] at h
      have h2 := ih h.2
      have h1 := h.1
      cases k <;> cases m <;> simp only [fitM] at h1 <;> try (cases h1; done)
      · exact ⟨_, _, rfl, rfl, h2⟩
      · exact ⟨_, _, rfl, h1, h2⟩
      · exact ⟨_, _, rfl, rfl, h2⟩
      · exact (fitCs_hash _).append h2
theorem mvs_ceq {lay : List Kd} : ∀ {a b : List MV}, fitMs lay a = true → fitMs lay b = true → ceqs (a.flatMap mvV) (b.flatMap mvV) = mvsEq b a := by
  induction lay with
  | nil =>
    intro a b ha hb
    cases a <;> cases b <;> simp [fitMs] at ha hb
    rfl
  | cons k lay ih =>
    intro a b ha hb
    cases a with
    | nil => simp [fitMs] at ha
    | cons x a =>
      cases b with
      | nil => simp [fitMs] at hb
      | cons y b =>
        simp only [fitMs, Bool.and_eq_true] at ha hb
        have ih := ih ha.2 hb.2
        have h1 := ha.1
        have h2 := hb.1
        cases k <;> cases x <;> simp only [fitM] at h1 <;> try (cases h1; done)
        all_goals cases y <;> simp only [fitM] at h2 <;> try (cases h2; done)
        · rename_i p q
          simp only [List.flatMap_cons, mvV, List.cons_append, List.nil_append, ceqs, ceq, mvsEq, mvEq, ih]
          congr 1; rw [decide_eq_decide]; exact eq_comm
        · rename_i k1 p k2 q
          have e1 := of_decide_eq_true h1
          have e2 := of_decide_eq_true h2
          subst e1; subst e2
          simp only [List.flatMap_cons, mvV, List.cons_append, List.nil_append, ceqs, ceq, mvsEq, mvEq, ih, decide_true, Bool.true_and]
          congr 1; rw [decide_eq_decide]; exact eq_comm
        · rename_i p q
          simp only [List.flatMap_cons, mvV, List.cons_append, List.nil_append, ceqs, ceq, mvsEq, mvEq, ih]
          congr 1; rw [decide_eq_decide]; simp [eq_comm]
        · rename_i p q
          simp only [List.flatMap_cons, mvV, mvsEq, mvEq]
          rw [ceqs_append (by rw [hcells_length, hcells_length]), ceqs_hash, ih]
          congr 1; rw [decide_eq_decide]; exact eq_comm

def basicD : TypeDesc → Bool
  | .bool | .int _ | .string => true
  | _ => false
/-- fields of one cell each, of basic types -/
def keyFs (P : Program) (n : Nat) (fs : List Field) : Bool := fs.all fun f => (match P.underlying f.type with | some d => basicD d | none => false) && Nat.ble (f.offset + 1) n
def keyTB (P : Program) (kt : Nat) (I : TI) : Bool := match P.underlying kt with
  | some .bool => !I.st && isLay1 I.lay .b
  | some (.int k) => !I.st && isLay1 I.lay (.i k)
  | some .string => !I.st && isLay1 I.lay .s
  | some (.struct fs) => I.st && (match kindsAt P 20 kt with | some ks => kdsB ks (cks I.lay) | none => false) && keyFs P (cks I.lay).length fs.toList
  | _ => false
def zeroB (b : Bool) : Option Value → Bool
  | some (.bool false) => b
  | some (.int .i64 n) => !b && decide (n = 0)
  | _ => false
def mapB (P : Program) (ti : Nat → Option TI) (t kt : Nat) (b : Bool) : Bool := match P.underlying t with
  | some (.map kt' el) => Nat.beq kt' kt && (match P.info? el with | some i => zeroB b i.zero | none => false) && (match ti kt with | some I => nilB I.comps && keyTB P kt I | none => false)
  | _ => false
def lookM : List (Nat × (Nat × Bool)) → Nat → Option (Nat × Bool)
  | [], _ => none
  | (k, s) :: r, t => bif Nat.beq k t then some s else lookM r t
theorem lookM_mem {l : List (Nat × (Nat × Bool))} {t : Nat} {I : Nat × Bool} (h : lookM l t = some I) : (t, I) ∈ l := by
  induction l with
  | nil => simp [lookM] at h
  | cons p l ih =>
    obtain ⟨k, s⟩ := p
    simp only [lookM, nbeq] at h
    by_cases hk : k = t
    · subst hk; simp at h; subst h; simp
    · simp only [hk, decide_false, cond_false] at h
      exact List.mem_cons_of_mem _ (ih h)
def mapTabB (P : Program) (ti : Nat → Option TI) (l : List (Nat × (Nat × Bool))) : Bool := l.all fun p => mapB P ti p.1 p.2.1 p.2.2

theorem fit_one {k : Kd} {ks : List MV} (h : fitMs [k] ks = true) : ∃ m, ks = [m] ∧ fitM k m = true := by
  cases ks with
  | nil => simp [fitMs] at h
  | cons m r =>
    cases r with
    | cons => simp [fitMs] at h
    | nil => exact ⟨m, rfl, by simpa [fitMs] using h⟩
theorem run_checkKey_basic {P : Program} {t : TypeId} {d : TypeDesc} (hu : P.underlying t = some d) (hd : basicD d = true) (em : Bool) (n : Nat) (v : Value) (w : World) : (Instr.checkKey em (n + 1) t v).run P w = .ok () w := by
  rw [Instr.checkKey]
  simp only [Sem.run_bind, run_underlying hu, Result.andThen]
  cases d <;> simp [basicD] at hd <;> cases v <;> rfl
theorem run_part_basic {P : Program} {t : TypeId} {d : TypeDesc} (hu : P.underlying t = some d) (hd : basicD d = true) {xs : Array Value} {off : Nat} (h : off < xs.size) (w : World) : (Go.part t xs off).run P w = .ok xs[off] w := by
  cases d <;> simp [basicD] at hd <;> simp [Go.part, isAgg, run_underlying hu, h]
theorem mapTabB_ok {P : Program} {c : Ctx} {l : List (Nat × (Nat × Bool))} (h : mapTabB P c.ti l = true) (hm : ∀ t p, c.mt t = some p → lookM l t = some p) : MapTys P c := by
  intro t s hs
  unfold msOf at hs
  cases hmt : c.mt t with
  | none => simp [hmt] at hs
  | some p =>
    obtain ⟨kt, b⟩ := p
    simp only [hmt] at hs
    cases hI : c.tv kt with
    | none => simp [hI] at hs
    | some I =>
      simp only [hI] at hs
      cases hit : isIt ⟨I.st, I.lay, b⟩ with
      | true => simp [hit] at hs
      | false =>
      simp only [hit, cond_false, Option.some.injEq] at hs
      subst hs
      obtain ⟨hI1, hI2⟩ := tv_some hI
      have hb := List.all_eq_true.1 h _ (lookM_mem (hm t _ hmt))
      simp only [mapB] at hb
      split at hb
      · rename_i kt' el hu
        simp only [Bool.and_eq_true] at hb
        obtain ⟨⟨hb1, hb2⟩, hb3⟩ := hb
        have hb1 := Nat.eq_of_beq_eq_true hb1
        subst hb1
        split at hb2
        · rename_i inf hinf
          rw [hI1] at hb3
          simp only [Bool.and_eq_true] at hb3
          have hk := hb3.2
          have hz : ∀ w : World, (zeroValue el).run P w = .ok (valV b (zeroM b)) w := by
            intro w
            have : inf.zero = some (valV b (zeroM b)) := by
              generalize inf.zero = z at hb2
              unfold zeroB at hb2
              split at hb2
              · subst hb2; rfl
              · simp only [Bool.and_eq_true, Bool.not_eq_true'] at hb2
                obtain ⟨h1, h2⟩ := hb2
                subst h1
                rw [of_decide_eq_true h2]; rfl
              · cases hb2
            simp [zeroValue, typeInfo, hinf, this]
          unfold keyTB at hk
          refine ⟨kt', el, hu, hz, ?_⟩
          split at hk
          · rename_i hd
            simp only [Bool.and_eq_true, Bool.not_eq_true'] at hk
            have hl := isLayOne_eq hk.2
            refine ⟨fun em ks w hf => run_checkKey_basic hd rfl em 9999 _ w, _, hd, .inl fun a b' ha hb' => ?_⟩
            rw [hl] at ha hb'
            obtain ⟨x, rfl, hx⟩ := fit_one ha
            obtain ⟨y, rfl, hy⟩ := fit_one hb'
            cases x <;> simp [fitM] at hx
            cases y <;> simp [fitM] at hy
            rename_i p q
            simp only [hk.1, keyV, Instr.sameNow, mvsEq, mvEq, Bool.and_true]
            congr 1; rw [Bool.eq_iff_iff]; simp only [beq_iff_eq, decide_eq_true_eq]; exact eq_comm
          · rename_i k hd
            simp only [Bool.and_eq_true, Bool.not_eq_true'] at hk
            have hl := isLayOne_eq hk.2
            refine ⟨fun em ks w hf => run_checkKey_basic hd rfl em 9999 _ w, _, hd, .inl fun a b' ha hb' => ?_⟩
            rw [hl] at ha hb'
            obtain ⟨x, rfl, hx⟩ := fit_one ha
            obtain ⟨y, rfl, hy⟩ := fit_one hb'
            cases x <;> simp [fitM] at hx
            cases y <;> simp [fitM] at hy
            subst hx; subst hy
            rename_i p q
            simp only [hk.1, keyV, Instr.sameNow, mvsEq, mvEq, Bool.and_true, if_true, decide_true, Bool.true_and]
            congr 1; rw [Bool.eq_iff_iff]; simp only [beq_iff_eq, decide_eq_true_eq]; exact eq_comm
          · rename_i hd
            simp only [Bool.and_eq_true, Bool.not_eq_true'] at hk
            have hl := isLayOne_eq hk.2
            refine ⟨fun em ks w hf => run_checkKey_basic hd rfl em 9999 _ w, _, hd, .inl fun a b' ha hb' => ?_⟩
            rw [hl] at ha hb'
            obtain ⟨x, rfl, hx⟩ := fit_one ha
            obtain ⟨y, rfl, hy⟩ := fit_one hb'
            cases x <;> simp [fitM] at hx
            cases y <;> simp [fitM] at hy
            rename_i p q
            simp only [hk.1, keyV, Instr.sameNow, mvsEq, mvEq, Bool.and_true]
            congr 1; rw [beq_toListBytes, ByteArray.toList_eq, ByteArray.toList_eq, Bool.eq_iff_iff]; simp only [beq_iff_eq, decide_eq_true_eq, List.toList_toArray]; exact eq_comm
          · rename_i fs hd
            simp only [Bool.and_eq_true] at hk
            obtain ⟨⟨hst, hkk⟩, hfs⟩ := hk
            split at hkk
            · rename_i ks hks
              have hkk := kdsB_eq hkk
              subst hkk
              have hkv : ∀ q, keyV true q = .agg (q.flatMap mvV).toArray := by intro q; rfl
              refine ⟨fun em q w hf => ?_, _, hd, .inr fun x y hx hy => ⟨?_, fun w => ?_⟩⟩
              · have hlen : (q.flatMap mvV).length = (cks I.lay).length := (mvs_fit hf).length
                rw [hst, hkv, show (10000 : Nat) = 9999 + 1 from rfl, Instr.checkKey]
                simp only [Sem.run_bind, run_underlying hd, Result.andThen_ok]
                rw [← Array.forIn_toList]
                have each : ∀ f ∈ fs.toList, (∃ d, P.underlying f.type = some d ∧ basicD d = true) ∧ f.offset < (q.flatMap mvV).toArray.size := by
                  intro f hf
                  have := List.all_eq_true.1 hfs f hf
                  simp only [Bool.and_eq_true] at this
                  obtain ⟨h1, h2⟩ := this
                  split at h1
                  · rename_i d hd; exact ⟨⟨d, hd, h1⟩, by have := Nat.le_of_ble_eq_true h2; simp only [List.size_toArray]; omega⟩
                  · cases h1
                clear hfs
                generalize fs.toList = L at each
                generalize (q.flatMap mvV).toArray = xs at each
                induction L with
                | nil => simp
                | cons f L ih =>
                  obtain ⟨⟨d, h1, h2⟩, h3⟩ := each f (by simp)
                  have hb1 := run_checkKey_basic h1 h2 em 9998 xs[f.offset] w
                  have hb2 := run_part_basic (P := P) h1 h2 h3 w
                  by_cases hn : f.name = "_"
                  · simp only [List.forIn_cons, Sem.run_bind, hn, ne_eq, not_true_eq_false, if_false, Result.andThen_ok, Sem.run_pure]
                    exact ih (fun y hy => each y (by simp [hy]))
                  · simp only [List.forIn_cons, Sem.run_bind, hn, ne_eq, not_false_eq_true, if_true, Result.andThen_ok, hb1, hb2, Sem.run_pure]
                    exact ih (fun y hy => each y (by simp [hy]))
              · rw [hst, hkv, hkv]; rfl
              · rw [hst, hkv, hkv]
                have := equal_cells (P := P) (w := w) 20 kt' _ hks 9980 (.agg (x.flatMap mvV).toArray) (.agg (y.flatMap mvV).toArray) (x.flatMap mvV) (y.flatMap mvV) (by simp [Wrap, hd]) (by simp [Wrap, hd]) (mvs_fit hx) (mvs_fit hy)
                rw [mvs_ceq hx hy] at this
                exact this
            · cases hkk
          · cases hk
        · cases hb2
      · cases hb
end Dn
/-
  Functions that are handed a variable do what their abstract run says. Conditions: none.
-/
set_option linter.unusedSimpArgs false
set_option linter.unusedVariables false
namespace Dn
open Go
section
variable {P : Program} {c : Ctx} {Z : Zone} {e e' : Env} {st st' : St} {a a' : Act} {w w' : World} {R : Type} {r : R}
end
end Dn
/-
  Operations whose order is open. Conditions: none.
-/
set_option linter.unusedSimpArgs false
set_option linter.unusedVariables false
namespace Dn
open Go

section
variable {P : Program} {c : Ctx} {ops : Array Oper} {N : Act → World → Prop}

/-- only the normal end -/
def Only (N : Act → World → Prop) : Exit → Act → World → Prop
  | .normal, a, w => N a w
  | _, _, _ => False
def growAt (c : Ctx) (oi : Oper) (ops : Array Oper) (i : Nat) : Bool := match ops[i]? with | some o => grAt c o || entOK oi o | none => true
/-- every order, with what is known of the memory -/
def anyG (P : Program) (c : Ctx) (ops : Array Oper) (N : Act → World → Prop) (φ : Ph) : Nat → Array Bool → Act → World → Prop
  | 0, listed, a, w => Region.ready .any ops listed = [] ∧ N a w
  | fuel + 1, listed, a, w => (Region.ready .any ops listed = [] → N a w) ∧
    ∀ i ∈ Region.ready .any ops listed, wpOp P ops (Only N) i (fun a' w' => ((∀ oi, growAt c oi ops i = true → GrowFor c oi w w') ∧ Imm φ w') ∧ anyG P c ops N φ fuel (listed.setIfInBounds i true) a' w') a w
theorem anyG_mono {φ φ' : Ph} (hp : PhLe φ φ') : ∀ (fuel : Nat) (listed : Array Bool) (a : Act) (w : World), anyG P c ops N φ' fuel listed a w → anyG P c ops N φ fuel listed a w := by
  intro fuel
  induction fuel with
  | zero => intro listed a w h; exact h
  | succ fuel ih => intro listed a w h; exact ⟨h.1, fun i hi => wpOp_mono (fun a w h => ⟨⟨h.1.1, fun b o v hv => h.1.2 b o v (hp b o v hv)⟩, ih _ _ _ h.2⟩) (h.2 i hi)⟩
theorem anyG_any {φ : Ph} : ∀ (fuel : Nat) (listed : Array Bool) (a : Act) (w : World), anyG P c ops N φ fuel listed a w → wpAny P .any ops (Only N) fuel listed a w := by
  intro fuel
  induction fuel with
  | zero => intro listed a w h; exact h
  | succ fuel ih => intro listed a w h; exact ⟨h.1, fun i hi => wpOp_mono (fun a w h => ih _ _ _ h.2) (h.2 i hi)⟩

theorem entOK_same {oi oj p : Oper} {w w' : World} (h1 : entOK oi p = true) (h2 : entOK oj p = true) (h : GrowFor c oi w w') : GrowFor c oj w w' := by
  unfold entOK at h1 h2
  split at h1
  · rename_i t t' g1 g2
    split at h2
    · rename_i u u' g3 g4
      rw [g2] at g4
      cases g4
      have e1 := Nat.eq_of_beq_eq_true h1
      have e2 := Nat.eq_of_beq_eq_true h2
      subst e1; subst e2
      simpa [GrowFor, lkMS, g1, g3] using h
    · cases h2
  · cases h1

theorem op_put {j : Nat} {oi oj : Oper} {v : Value} (hj : ops[j]? = some oj) (hap : oi.apart ops oj = true)
    (hsi : ∀ cs b, oi.op ≠ .select cs b) (hsj : ∀ cs b, oj.op ≠ .select cs b) {K : Act → World → Prop} {a : Act} {w : World} (h : wpOp P ops (Only N) j K (a.put oi.dst v) w) :
    wpOp P ops (Only N) j (fun a' w' => (execOp a'.eval oi = execOp a.eval oi ∧ Region.wanted oi (yielded ops a'.tmps) = Region.wanted oi (yielded ops a.tmps)) ∧ K (a'.put oi.dst v) w') a w := by
  obtain ⟨h1, h2, h3⟩ := Oper.apart_spec hap
  have keep : ∀ (a : Act) (u : Value), execOp (a.put oj.dst u).eval oi = execOp a.eval oi ∧ Region.wanted oi (yielded ops (a.put oj.dst u).tmps) = Region.wanted oi (yielded ops a.tmps) :=
    fun a u => ⟨execOp_put oi hsi a oj.dst u h3, wanted_put oi a oj.dst u h3⟩
  unfold wpOp at *
  simp only [hj] at *
  rw [wanted_put oj a oi.dst v h1] at h
  split
  · rename_i hw
    simp only [hw, if_true] at h
    rcases h with h | ⟨hasks, hlets⟩
    case inr => obtain ⟨_, _, hf⟩ := hlets; exact hf.elim
    refine .inl ?_
    unfold Oper.wp at *
    rw [execOp_put oj hsj a oi.dst v h1] at h
    generalize (execOp a.eval oj).run P w = r at *
    cases r with
    | ok n w' =>
      cases n <;> simp only [Oper.upon] at h ⊢
      case value u => exact ⟨keep a u, by rw [← Act.put_comm a v u h2]; exact h⟩
      case skip => exact ⟨keep a _, by rw [← Act.put_comm a v undef h2]; exact h⟩
      case defer d =>
        refine ⟨keep _ _, ?_⟩
        rw [← Act.put_comm _ v undef h2, ← Act.put_defers]
        exact h
      case enter f args =>
        refine Calls.mono h fun x w'' he => ?_
        cases x with
        | returned u => exact ⟨keep a u, by rw [← Act.put_comm a v u h2]; exact he⟩
        | panicked c => exact he
        | outgrown => exact he
      case row row args => exact Rows.mono h fun u w'' he => ⟨keep a u, by rw [← Act.put_comm a v u h2]; exact he⟩
    | halt x w' =>
      cases x <;> simp only [Oper.upon] at h ⊢
      case panic u => exact h
  · rename_i hw
    simp only [hw] at h
    exact ⟨keep a _, by rw [← Act.put_comm a v undef h2]; exact h⟩

/-- what an operation yields, in a memory and in those that come of it -/
def YieldsW (P : Program) (c : Ctx) (ops : Array Oper) (φ : Ph) (o : Oper) (v : Value) (a : Act) (w : World) : Prop :=
  (Region.wanted o (yielded ops a.tmps) = true ∧ ∀ w', (isLr c o = true → (still c o = false → GrowFor c o w w') ∧ Imm φ w') → (execOp a.eval o).run P w' = .ok (.value v) w') ∨
  (Region.wanted o (yielded ops a.tmps) = false ∧ v = undef)
theorem anyG_first {φ : Ph} {i : Nat} {oi : Oper} {v : Value} {D : List Nat} (hD : ∀ j oj, j ∈ D → j ≠ i → ops[j]? = some oj → ∃ e ∈ oj.after, Region.binds .any e = true ∧ e.on ∈ D) (hi : ops[i]? = some oi) (hsel : ∀ (j : Nat) (o : Oper) cs b, ops[j]? = some o → o.op ≠ .select cs b) :
    ∀ (fuel : Nat) (listed : Array Bool) (a : Act) (w : World),
      (∀ j oj, ops[j]? = some oj → j ∉ D → j ≠ i → listed.getD j true = false → oi.apart ops oj = true ∧ (isLr c oi = true → still c oi = false → growAt c oi ops j = true)) → (∀ d ∈ D, listed.getD d false = false) →
      i ∈ Region.ready .any ops listed → YieldsW P c ops φ oi v a w → Imm φ w →
      anyG P c ops N φ fuel (listed.setIfInBounds i true) (a.put oi.dst v) w → anyG P c ops N φ (fuel + 1) listed a w := by
  have self : ∀ (fuel : Nat) (listed : Array Bool) (a : Act) (w : World), YieldsW P c ops φ oi v a w → Imm φ w → anyG P c ops N φ fuel (listed.setIfInBounds i true) (a.put oi.dst v) w →
      wpOp P ops (Only N) i (fun a' w' => ((∀ oi, growAt c oi ops i = true → GrowFor c oi w w') ∧ Imm φ w') ∧ anyG P c ops N φ fuel (listed.setIfInBounds i true) a' w') a w := by
    intro fuel listed a w hy hm H
    unfold wpOp
    simp only [hi]
    rcases hy with ⟨hw, hv⟩ | ⟨hw, rfl⟩
    · simp only [hw, if_true, Oper.wp, hv w (fun _ => ⟨fun _ => (Grow.refl w).for, hm⟩), Oper.upon]
      exact .inl ⟨⟨fun _ _ => (Grow.refl w).for, hm⟩, H⟩
    · simp only [hw, Bool.false_eq_true, if_false]
      exact ⟨⟨fun _ _ => (Grow.refl w).for, hm⟩, H⟩
  intro fuel
  induction fuel with
  | zero =>
    intro listed a w _ _ hr hy hm H
    refine ⟨fun h => (by rw [h] at hr; cases hr), fun j hj => ?_⟩
    by_cases hji : j = i
    · subst hji; exact self 0 listed a w hy hm H
    · have := ready_mono hj hji
      rw [H.1] at this
      cases this
  | succ fuel ih =>
    intro listed a w hfree hdis hr hy hm H
    refine ⟨fun h => (by rw [h] at hr; cases hr), fun j hj => ?_⟩
    by_cases hji : j = i
    · subst hji; exact self (fuel + 1) listed a w hy hm H
    · have h1 := H.2 j (ready_mono hj hji)
      obtain ⟨hjun, oj, hoj, hall⟩ := mem_ready.1 hj
      have hjD : j ∉ D := by
        intro hjd
        obtain ⟨e, he, hb, hon⟩ := hD j oj hjd hji hoj
        have h1 := hall e he hb
        rw [hdis e.on hon] at h1; cases h1
      obtain ⟨hap, hgr⟩ := hfree j oj hoj hjD hji hjun
      have h2 := op_put hoj hap (fun cs b => hsel i oi cs b hi) (fun cs b => hsel j oj cs b hoj) h1
      have hdis' : ∀ d ∈ D, (listed.setIfInBounds j true).getD d false = false := by
        intro d hd
        rw [getD_set_ne false (fun he => hjD (by rw [he]; exact hd))]; exact hdis d hd
      have hfree' : ∀ k ok, ops[k]? = some ok → k ∉ D → k ≠ i → (listed.setIfInBounds j true).getD k true = false → oi.apart ops ok = true ∧ (isLr c oi = true → still c oi = false → growAt c oi ops k = true) := fun k ok hk hkD hki hun => by
        refine hfree k ok hk hkD hki ?_
        by_cases hjk : j = k
        · subst hjk; exact hjun
        · rw [getD_set_ne true hjk] at hun; exact hun
      refine wpOp_mono (fun a' w' h3 => ⟨h3.2.1, ih (listed.setIfInBounds j true) a' w' hfree' hdis' (ready_mono hr (Ne.symm hji)) ?_ h3.2.1.2 ?_⟩) h2
      · obtain ⟨⟨he, hwn⟩, ⟨hg, _⟩, _⟩ := h3
        rcases hy with ⟨hw, hv⟩ | ⟨hw, rfl⟩
        · refine .inl ⟨by rw [hwn]; exact hw, fun w'' hg2 => ?_⟩
          rw [he]
          exact hv w'' (fun hl => ⟨fun hs => (hg oi (hgr hl hs)).trans ((hg2 hl).1 hs), (hg2 hl).2⟩)
        · exact .inr ⟨by rw [hwn]; exact hw, rfl⟩
      · rw [Array.setIfInBounds_comm _ _ hji]
        exact h3.2.2

variable {Z : Zone} {R : Type} {K : St → Option R} {r : R}

theorem opndsL_eq (op : Op) : opndsL op = op.operands.toList := by
  cases op <;> first | rfl | simp [opndsL, Op.operands, Call.operands]
  all_goals first | rfl | (rename_i c; cases c.callee <;> simp)
theorem tmpsL_eq (l : List Operand) : tmpsL l = l.filterMap fun | .tmp t => some t | _ => none := by
  induction l with
  | nil => rfl
  | cons x l ih => cases x <;> simp [tmpsL, ih]
theorem looksL_eq (o : Oper) : looksL ops.toList o = o.looksAt ops := by
  unfold looksL Oper.looksAt
  rw [opndsL_eq, tmpsL_eq]
  congr 1
  cases o.guard with
  | none => rfl
  | some g =>
    obtain ⟨g, wnt⟩ := g
    simp only [Array.getElem?_toList]
    cases ops[g]? <;> rfl
theorem apartL_ok {x y : Oper} (h : apartL ops.toList x y = true) : x.apart ops y = true := by
  unfold apartL at h
  unfold Oper.apart
  rw [looksL_eq, looksL_eq] at h
  have hn : ∀ (l : List Nat) (d : Nat), nmem l d = l.contains d := by
    intro l d
    have := nmem_iff l d
    cases h1 : nmem l d <;> cases h2 : l.contains d <;> simp_all
  cases hx : x.dst <;> cases hy : y.dst <;> simp_all [bne, nbeq]
theorem bindsB_eq (e : Edge) : bindsB e = Region.binds .any e := by
  unfold bindsB Region.binds
  cases e.ground <;> rfl
/-- which operations are done -/
structure Lst (ops : Array Oper) (listed : Array Bool) (pre : List Nat) : Prop where
  size : listed.size = ops.size
  mem : ∀ i, i < ops.size → (listed.getD i true = true ↔ i ∈ pre)
theorem Lst.set {listed : Array Bool} {pre : List Nat} {x : Nat} (h : Lst ops listed pre) (hx : x < ops.size) : Lst ops (listed.setIfInBounds x true) (x :: pre) := by
  refine ⟨by simpa using h.size, fun i hi => ?_⟩
  by_cases hix : x = i
  · subst hix
    have : x < listed.size := by rw [h.size]; exact hx
    simp [this]
  · rw [getD_set_ne true hix, h.mem i hi]
    simp only [List.mem_cons]
    exact ⟨.inr, fun hh => hh.resolve_left (fun he => hix he.symm)⟩
theorem Lst.false_of {listed : Array Bool} {pre : List Nat} {i : Nat} (h : Lst ops listed pre) (hi : i < ops.size) : listed.getD i true = false ↔ i ∉ pre := by
  rw [← h.mem i hi]; cases listed.getD i true <;> simp
theorem Lst.done {listed : Array Bool} {pre : List Nat} {i : Nat} (h : Lst ops listed pre) (hi : i < ops.size) : listed.getD i false = true ↔ i ∈ pre := by
  rw [← h.mem i hi]
  have hl : i < listed.size := by rw [h.size]; exact hi
  simp [hl]

theorem drawFrom_fresh : ∀ (rest pre : List Nat), drawFrom c ops.toList pre rest = true → ∀ z ∈ rest, z ∉ pre := by
  intro rest
  induction rest with
  | nil => intro pre _ z hz; cases hz
  | cons y rest ihr =>
    intro pre hd z hz
    simp only [drawFrom] at hd
    cases hy : ops.toList[y]? with
    | none => simp [hy] at hd
    | some oy =>
      simp only [hy, Bool.and_eq_true, Bool.not_eq_true'] at hd
      rcases List.mem_cons.1 hz with rfl | hz
      · rw [← nmem_iff, hd.1.1.1.2]; simp
      · exact fun hzp => ihr (y :: pre) hd.2 z hz (by simp [hzp])
theorem freeRest_spec {o : Oper} {x : Nat} : ∀ (rest D0 : List Nat), freeRest c ops.toList o D0 rest = true → (∀ y, y ∈ D0 → y ≠ x → ∃ p, ops[y]? = some p ∧ ∃ e ∈ p.after, Region.binds .any e = true ∧ e.on ∈ D0) →
    ∃ D : List Nat, (∀ y ∈ D0, y ∈ D) ∧ (∀ y ∈ D, y ∈ D0 ∨ y ∈ rest) ∧ (∀ j oj, j ∈ D → j ≠ x → ops[j]? = some oj → ∃ e ∈ oj.after, Region.binds .any e = true ∧ e.on ∈ D) ∧
      (∀ y ∈ rest, y ∉ D → ∃ p, ops[y]? = some p ∧ o.apart ops p = true ∧ (isLr c o = true → still c o = false → (grAt c p || entOK o p) = true)) := by
  intro rest
  induction rest with
  | nil =>
    intro D0 _ h0
    refine ⟨D0, fun y hy => hy, fun y hy => .inl hy, fun j oj hj hne ho => ?_, fun y hy => by cases hy⟩
    obtain ⟨p, hp, he⟩ := h0 j hj hne
    rw [ho] at hp; cases hp; exact he
  | cons y rest ih =>
    intro D0 h h0
    simp only [freeRest] at h
    cases hy : ops.toList[y]? with
    | none => simp [hy] at h
    | some p =>
      simp only [hy] at h
      have hy' : ops[y]? = some p := by simpa using hy
      cases he : edgeTo p (nmem D0) with
      | true =>
        simp only [he, cond_true] at h
        obtain ⟨D, D1, D2, D3, D4⟩ := ih (y :: D0) h (by
          intro z hz hne
          rcases List.mem_cons.1 hz with rfl | hz
          · unfold edgeTo at he
            obtain ⟨ed, hed, hb⟩ := List.any_eq_true.1 he
            simp only [Bool.and_eq_true, bindsB_eq] at hb
            exact ⟨p, hy', ed, by simpa using hed, hb.1, by simp [(nmem_iff _ _).1 hb.2]⟩
          · obtain ⟨q, hq, ed, h1, h2, h3⟩ := h0 z hz hne
            exact ⟨q, hq, ed, h1, h2, by simp [h3]⟩)
        refine ⟨D, fun z hz => D1 z (by simp [hz]), fun z hz => ?_, D3, fun z hz hzD => ?_⟩
        · rcases D2 z hz with h1 | h1
          · rcases List.mem_cons.1 h1 with h1 | h1
            · exact .inr (by simp [h1])
            · exact .inl h1
          · exact .inr (by simp [h1])
        · rcases List.mem_cons.1 hz with rfl | hz
          · exact absurd (D1 z (by simp)) hzD
          · exact D4 z hz hzD
      | false =>
        simp only [he, cond_false, Bool.and_eq_true, Bool.or_eq_true, Bool.not_eq_true'] at h
        obtain ⟨⟨h1, h2⟩, h3⟩ := h
        obtain ⟨D, D1, D2, D3, D4⟩ := ih D0 h3 h0
        refine ⟨D, D1, fun z hz => (D2 z hz).imp id (fun h => by simp [h]), D3, fun z hz hzD => ?_⟩
        rcases List.mem_cons.1 hz with rfl | hz
        · refine ⟨p, hy', apartL_ok h1, fun hl hs => ?_⟩
          rcases h2 with ((h2 | h2) | h2) | h2
          · rw [hl] at h2; cases h2
          · simp [h2]
          · rw [hs] at h2; cases h2
          · simp [h2]
        · exact D4 z hz hzD

/-- where some variables are made already, that wait to be taken up -/
def Zone.outs (Z : Zone) (bs : List Nat) : Zone := { Z with In := fun b => Z.In b ∧ b ∉ bs, Pr := fun b => Z.Pr b ∧ b ∉ bs }
theorem Sim.widen {Z Z' : Zone} {e : Env} {st : St} {a : Act} {w : World} (h : Sim c Z e st a w) (hI : ∀ b, Z.In b → Z'.In b) (hP : ∀ b, Z.Pr b → Z'.Pr b) (h1 : Z'.prot = Z.prot) (h2 : Z'.pfam = Z.pfam) (h3 : Z'.T = Z.T) (h4 : Z'.cov = Z.cov) : Sim c Z' e st a w := by
  refine ⟨by rw [h1, h2, h3]; exact h.defers, h.size, h.m, h.key, h.nodup, fun t => ?_, h.root, fun f o ho => ?_, h.bb, h.bf, h.ff, h.imm, fun b hb => hI b (h.zone b hb)⟩
  · have hs := h.slot t
    generalize fget st.fr t = s at hs
    cases s <;> simp only [SlotAt] at hs ⊢ <;> first | exact hs | skip
    exact ⟨⟨hs.1.1, fun hp => by rw [h1, h3]; exact hs.1.2 hp⟩, ⟨by rcases hs.2.zone with ⟨x, y⟩ | x; exact .inl ⟨by rw [h1]; exact x, hP _ y⟩; exact .inr (hI _ x), hs.2.obj, hs.2.free⟩⟩
  · obtain ⟨I, cells, g1, g2, g3, g4, g5⟩ := (h.fam f o ho).row
    refine ⟨I, cells, g1, g2, g3, g4, fun blk hb => ?_⟩
    obtain ⟨k1, k2, k3⟩ := g5 blk hb
    refine ⟨?_, k2, fun hc hz j hj => k3 (by have hc : f ∈ Z'.pfam := hc; rw [h2] at hc; exact hc) hz j hj⟩
    rcases k1 with ⟨x, y⟩ | x
    · exact .inl ⟨by rw [h2]; exact x, hP _ y⟩
    · exact .inr (hI _ x)
theorem Sim.narrow {e : Env} {st : St} {a : Act} {w w' : World} {bs : List Nat} (h : Sim c (Z.outs bs) e st a w) (g : Grow w w') (hs : w.heap.size < w'.heap.size) : Sim c (Z.outs (w.heap.size :: bs)) e st a w' := by
  have h' := h.grow g
  have hin : ∀ b, b < w.heap.size → (Z.outs bs).In b → (Z.outs (w.heap.size :: bs)).In b := fun b hb hi => ⟨hi.1, by simp only [List.mem_cons, not_or]; exact ⟨by omega, hi.2⟩⟩
  have hpr : ∀ b, b < w.heap.size → (Z.outs bs).Pr b → (Z.outs (w.heap.size :: bs)).Pr b := fun b hb hi => ⟨hi.1, by simp only [List.mem_cons, not_or]; exact ⟨by omega, hi.2⟩⟩
  refine ⟨h'.defers, h'.size, h'.m, h'.key, h'.nodup, fun t => ?_, h'.root, fun f o ho => ?_, h'.bb, h'.bf, h'.ff, h'.imm, fun b hb => ?_⟩
  · have hs := h.slot t
    have hs' := h'.slot t
    generalize fget st.fr t = s at hs hs'
    cases s <;> simp only [SlotAt] at hs hs' ⊢ <;> first | exact hs' | skip
    obtain ⟨o2, k1, _⟩ := hs.2.obj
    have hl := lt_of_heap k1
    exact ⟨hs'.1, ⟨by rcases hs'.2.zone with ⟨x, y⟩ | x; exact .inl ⟨x, hpr _ hl y⟩; exact .inr (hin _ hl x), hs'.2.obj, hs'.2.free⟩⟩
  · obtain ⟨I, cells, g1, g2, g3, g4, g5⟩ := (h'.fam f o ho).row
    refine ⟨I, cells, g1, g2, g3, g4, fun blk hb => ?_⟩
    obtain ⟨k1, k2, k3⟩ := g5 blk hb
    refine ⟨?_, k2, k3⟩
    have hl : blk < w.heap.size := by
      obtain ⟨I', cells', l1, l2, l3, l4, l5⟩ := (h.fam f o ho).row
      rcases l3.2 with ⟨hv, _⟩ | ⟨gg, cap, cur, hv, _, hg, _⟩
      · rw [hv] at hb; simp [Value.ownBlock] at hb
      · rw [hv] at hb
        simp only [Value.ownBlock, Option.some.injEq] at hb
        have := lt_of_heap hg
        omega
    rcases k1 with ⟨x, y⟩ | x
    · exact .inl ⟨x, hpr _ hl y⟩
    · exact .inr (hin _ hl x)
  · refine ⟨(h.zone b (by omega)).1, ?_⟩
    simp only [List.mem_cons, not_or]
    exact ⟨by omega, (h.zone b (by omega)).2⟩
def vOf (b : Nat) : Value := .pointer (some ⟨b, 0, none⟩)
def dstOf (ops : Array Oper) (i : Nat) : Option Nat := match ops[i]? with
  | some o => o.dst
  | none => none
def puts (ops : Array Oper) : List (Nat × Nat) → Act → Act
  | [], a => a
  | p :: r, a => (puts ops r a).put (dstOf ops p.1) (vOf p.2)
/-- a new variable waits -/
structure Pend (c : Ctx) (Z : Zone) (ops : Array Oper) (e : Env) (w : World) (p : Nat × Nat) : Prop where
  row : ∃ o t I d arr T, ops[p.1]? = some o ∧ isAl o = true ∧ o.op = .alloc t ∧ c.tv t = some I ∧ o.dst = some d ∧ w.heap[p.2]? = some (.cells arr T (0, 0)) ∧ ∀ e' : Env, LeavesRep e' arr.toList I.zero
  free : ∀ off, e.φ p.2 off = none
  zone : Z.In p.2
theorem isAl_spec {o : Oper} (h : isAl o = true) : ∃ t d, o.op = .alloc t ∧ o.dst = some d ∧ o.guard = none ∧ ∀ e ∈ o.after, Region.binds .any e = false := by
  unfold isAl at h
  split at h
  · rename_i t d h1 h2 h3
    refine ⟨t, d, h1, h2, h3, fun e he => ?_⟩
    have := List.all_eq_true.1 h e (by simpa using he)
    simpa [bindsB_eq] using this
  · cases h
theorem alloc_zero {t : TypeId} {I : TI} (hI : c.tv t = some I) (hT : TIok P c.ti) : ∃ i z, P.info? t = some i ∧ i.zero = some z ∧ ∀ e : Env, LeavesRep e z.cells.toList I.zero := by
  obtain ⟨hti, hc⟩ := tv_some hI
  obtain ⟨d, i, h1, h2, h3, h4⟩ := hT t I hti
  suffices hz : ∃ z, i.zero = some z ∧ ∀ e : Env, LeavesRep e z.cells.toList I.zero by
    obtain ⟨z, h5, h6⟩ := hz
    exact ⟨i, z, h2, h5, h6⟩
  cases d <;> simp only [RowD] at h4
  case struct fs => obtain ⟨_, _, _, _, _, _, cs, hz, hl, _⟩ := h4; exact ⟨_, hz, fun e => by simpa [Value.cells] using leavesZ_rep hl⟩
  case tuple ts => exact absurd hc h4.2.1
  case slice el => obtain ⟨_, _, _, _, _, hz, hl, _⟩ := h4; exact ⟨_, hz, fun e => by rw [hl]; exact ⟨[.slice none 0 0], [], rfl, rfl, rfl⟩⟩
  case array n el => obtain ⟨_, _, _, _, _, _, _, hl, hz⟩ := h4; exact ⟨_, hz, fun e => by rw [hl]; exact ⟨hcells Hash.zero, [], by simp [Value.cells], rfl, rfl⟩⟩
  case bool => obtain ⟨_, _, _, _, hl, hz⟩ := h4; exact ⟨_, hz, fun e => by rw [hl]; exact ⟨[.bool false], [], rfl, ⟨rfl, .b _⟩, rfl⟩⟩
  case int k => obtain ⟨_, _, _, _, hl, hz⟩ := h4; exact ⟨_, hz, fun e => by rw [hl]; exact ⟨[.int k 0], [], rfl, ⟨rfl, .i _ _⟩, rfl⟩⟩
  case string =>
    obtain ⟨_, _, _, _, hl, b, hz, hb⟩ := h4
    refine ⟨_, hz, fun e => by rw [hl]; refine ⟨[.string b], [], rfl, ⟨rfl, ?_⟩, rfl⟩; rw [← hb]; exact .s b⟩
  all_goals
    obtain ⟨_, _, _, _, v, hz, hv, hl⟩ := h4
    refine ⟨v, hz, fun e => ?_⟩
    have : v.cells.toList = [v] := by cases v <;> simp_all [Value.cells, Value.oneCell']
    rw [this]; exact leavesZ_rep hl
theorem execOp_puts {o : Oper} (hs : ∀ cs b, o.op ≠ .select cs b) (a : Act) : ∀ (pd : List (Nat × Nat)), (∀ p ∈ pd, ∀ d, dstOf ops p.1 = some d → d ∉ o.looksAt ops) →
    execOp (puts ops pd a).eval o = execOp a.eval o ∧ Region.wanted o (yielded ops (puts ops pd a).tmps) = Region.wanted o (yielded ops a.tmps)
  | [], _ => ⟨rfl, rfl⟩
  | p :: r, h => by
    obtain ⟨h1, h2⟩ := execOp_puts hs a r (fun q hq => h q (by simp [hq]))
    have hp := h p (by simp)
    exact ⟨(execOp_put o hs _ _ _ hp).trans h1, (wanted_put o _ _ _ hp).trans h2⟩
theorem puts_put (a : Act) (y : Option Nat) (v : Value) : ∀ (pd : List (Nat × Nat)), (∀ p ∈ pd, ∀ d, dstOf ops p.1 = some d → y ≠ some d) → (puts ops pd a).put y v = puts ops pd (a.put y v)
  | [], _ => rfl
  | p :: r, h => by
    simp only [puts]
    rw [Act.put_comm _ _ _ (fun d hd => h p (by simp) d hd), puts_put a y v r (fun q hq => h q (by simp [hq]))]
theorem puts_defers (a : Act) : ∀ (pd : List (Nat × Nat)), (puts ops pd a).defers = a.defers
  | [] => rfl
  | p :: r => by
    simp only [puts]
    rw [← puts_defers a r]
    cases dstOf ops p.1 <;> rfl
theorem op_put' {j : Nat} {oj : Oper} {x : Option Nat} {v : Value} (hj : ops[j]? = some oj) (h1 : ∀ d, x = some d → d ∉ oj.looksAt ops) (h2 : ∀ d, x = some d → oj.dst ≠ some d)
    (hsj : ∀ cs b, oj.op ≠ .select cs b) {K : Act → World → Prop} {a : Act} {w : World} (h : wpOp P ops (Only N) j K a w) :
    wpOp P ops (Only N) j (fun a' w' => ∃ a'', a' = a''.put x v ∧ K a'' w') (a.put x v) w := by
  unfold wpOp at *
  simp only [hj] at *
  rw [wanted_put oj a x v h1]
  split
  · rename_i hw
    simp only [hw, if_true] at h
    rcases h with h | ⟨hasks, hlets⟩
    case inr => obtain ⟨_, _, hf⟩ := hlets; exact hf.elim
    refine .inl ?_
    unfold Oper.wp at *
    rw [execOp_put oj hsj a x v h1]
    generalize (execOp a.eval oj).run P w = r at *
    cases r with
    | ok n w' =>
      cases n <;> simp only [Oper.upon] at h ⊢
      case value u => exact ⟨_, Act.put_comm a v u h2, h⟩
      case skip => exact ⟨_, Act.put_comm a v undef h2, h⟩
      case defer d =>
        refine ⟨{ a.put oj.dst undef with defers := d :: (a.put oj.dst undef).defers }, ?_, by simpa [Act.put_defers] using h⟩
        have := Act.put_comm a v undef h2
        cases x <;> cases hd : oj.dst <;> simp_all [Act.put]
      case enter f args =>
        refine Calls.mono h fun y w'' he => ?_
        cases y with
        | returned u => exact ⟨_, Act.put_comm a v u h2, he⟩
        | panicked c => exact he
        | outgrown => exact he
      case row row args => exact Rows.mono h fun u w'' he => ⟨_, Act.put_comm a v u h2, he⟩
    | halt y w' =>
      cases y <;> simp only [Oper.upon] at h ⊢
      case panic u => exact h
  · rename_i hw
    simp only [hw] at h
    exact ⟨_, Act.put_comm a v undef h2, h⟩
theorem op_puts {j : Nat} {oj : Oper} (hj : ops[j]? = some oj) (hsj : ∀ cs b, oj.op ≠ .select cs b) {K : Act → World → Prop} {a : Act} {w : World} (h : wpOp P ops (Only N) j K a w) : ∀ (pd : List (Nat × Nat)),
    (∀ p ∈ pd, ∀ d, dstOf ops p.1 = some d → d ∉ oj.looksAt ops ∧ oj.dst ≠ some d) → wpOp P ops (Only N) j (fun a' w' => ∃ a'', a' = puts ops pd a'' ∧ K a'' w') (puts ops pd a) w
  | [], _ => wpOp_mono (fun a' w' hk => ⟨a', rfl, hk⟩) h
  | p :: r, hp => by
    have h1 := op_puts hj hsj h r (fun q hq => hp q (by simp [hq]))
    have h2 := op_put' (v := vOf p.2) hj (fun d hd => (hp p (by simp) d hd).1) (fun d hd => (hp p (by simp) d hd).2) hsj h1
    refine wpOp_mono ?_ h2
    rintro a' w' ⟨a1, rfl, a2, rfl, hk⟩
    exact ⟨a2, rfl, hk⟩

theorem nodup_len : ∀ {l m : List Nat}, l.Nodup → (∀ x ∈ l, x ∈ m) → l.length ≤ m.length
  | [], m, _, _ => Nat.zero_le _
  | x :: l, m, hn, hs => by
    have hn := List.nodup_cons.1 hn
    have h1 : l.length ≤ (m.erase x).length := nodup_len hn.2 fun y hy => (List.mem_erase_of_ne (fun he => hn.1 (by rw [← he]; exact hy))).2 (hs y (by simp [hy]))
    have h2 := List.length_erase_of_mem (hs x (by simp))
    have h3 : 0 < m.length := List.length_pos_of_mem (hs x (by simp))
    simp only [List.length_cons]; omega
theorem puts_mid {x b : Nat} {o : Oper} (hdo : dstOf ops x = o.dst) (a : Act) (pr : List (Nat × Nat)) : ∀ (pl : List (Nat × Nat)), (∀ p ∈ pl ++ pr, ∀ dd, dstOf ops p.1 = some dd → o.dst ≠ some dd) → puts ops (pl ++ (x, b) :: pr) a = puts ops (pl ++ pr) (a.put o.dst (vOf b))
  | [], h => by
    simp only [List.nil_append, puts, hdo]
    exact puts_put a o.dst (vOf b) pr (fun p hp => h p (by simp [hp]))
  | q :: pl, h => by
    simp only [List.cons_append, puts]
    rw [puts_mid hdo a pr pl (fun p hp => h p (by simp only [List.cons_append, List.mem_cons]; exact .inr hp))]
/-- which operations are done -/
theorem Lst.congr {listed : Array Bool} {l l' : List Nat} (h : Lst ops listed l) (he : ∀ i, i ∈ l ↔ i ∈ l') : Lst ops listed l' := ⟨h.size, fun i hi => by rw [h.mem i hi, he]⟩
theorem freeRest_al {o : Oper} : ∀ (rest D : List Nat), freeRest c ops.toList o D rest = true → ∀ y ∈ rest, ∀ p, ops[y]? = some p → isAl p = true → o.apart ops p = true := by
  intro rest
  induction rest with
  | nil => intro D _ y hy; cases hy
  | cons z rest ih =>
    intro D h y hy p hp hal
    simp only [freeRest] at h
    cases hz : ops.toList[z]? with
    | none => simp [hz] at h
    | some q =>
      simp only [hz] at h
      cases he : edgeTo q (nmem D) with
      | true =>
        simp only [he, cond_true] at h
        rcases List.mem_cons.1 hy with rfl | hy
        · exfalso
          have hz' : ops[y]? = some q := by simpa using hz
          rw [hz'] at hp; cases hp
          obtain ⟨_, _, _, _, _, hne⟩ := isAl_spec hal
          unfold edgeTo at he
          obtain ⟨ed, hed, hb⟩ := List.any_eq_true.1 he
          simp only [Bool.and_eq_true, bindsB_eq] at hb
          rw [hne ed (by simpa using hed)] at hb
          exact absurd hb.1 (by simp)
        · exact ih _ h y hy p hp hal
      | false =>
        simp only [he, cond_false, Bool.and_eq_true] at h
        rcases List.mem_cons.1 hy with rfl | hy
        · have hz' : ops[y]? = some q := by simpa using hz
          rw [hz'] at hp; cases hp
          exact apartL_ok h.1.1
        · exact ih _ h.2 y hy p hp hal
theorem apart_al {o p : Oper} {y : Nat} (hp : ops[y]? = some p) (h : p.apart ops o = true ∨ o.apart ops p = true) : ∀ d, dstOf ops y = some d → d ∉ o.looksAt ops ∧ o.dst ≠ some d := by
  intro d hd
  have hd : p.dst = some d := by simpa [dstOf, hp] using hd
  rcases h with h | h
  · obtain ⟨h1, h2, h3⟩ := Oper.apart_spec h
    exact ⟨h1 d hd, h2 d hd⟩
  · obtain ⟨h1, h2, h3⟩ := Oper.apart_spec h
    exact ⟨h3 d hd, fun he => h2 d he hd⟩
theorem Pend.later {Z : Zone} {bs : List Nat} {e e' : Env} {w w' : World} {p : Nat × Nat} (h : Pend c Z ops e w p) (hb : p.2 ∈ bs) (t : Trans (Z.outs bs).In e.φ w e'.φ w') : Pend c Z ops e' w' p := by
  obtain ⟨o, ty, I, d, arr, T, h1, h2, h3, h4, h5, h6, h7⟩ := h.row
  have hn : ¬ (Z.outs bs).In p.2 := fun hh => hh.2 hb
  exact ⟨⟨o, ty, I, d, arr, T, h1, h2, h3, h4, h5, by rw [t.heap _ hn (lt_of_heap h6)]; exact h6, h7⟩, fun off => by rw [t.free _ off hn]; exact h.free off, h.zone⟩
theorem Trans.wide {Z Z' : Nat → Prop} {φ φ' : Ph} {w w' : World} (t : Trans Z φ w φ' w') (h : ∀ b, Z b → Z' b) : Trans Z' φ w φ' w' :=
  ⟨t.ph, fun b hb hl => t.heap b (fun hz => hb (h b hz)) hl, fun b o hb => t.free b o (fun hz => hb (h b hz)), t.size, t.rest⟩

theorem draw_ok (hG : Good P c) (hsel : ∀ (j : Nat) (o : Oper) cs b, ops[j]? = some o → o.op ≠ .select cs b) {φ0 : Ph} {w0 : World} (hN : ∀ a' w', Out c Z K r φ0 w0 a' w' → N a' w') :
    ∀ (m : Nat) (rest pre : List Nat) (pd : List (Nat × Nat)) (l : List Oper) (listed : Array Bool) (e : Env) (st : St) (a : Act) (w : World), 2 * rest.length - pd.length ≤ m → Sim c (Z.outs (pd.map (·.2))) e st a w → opsK c ops.toList l st K = some r → Trans Z.In φ0 w0 e.φ w → pickOps ops.toList rest = some l →
      drawFrom c ops.toList pre rest = true → Lst ops listed (pd.map (·.1) ++ pre) → (∀ i, i < ops.size → i ∈ pre ∨ i ∈ rest) → (∀ i ∈ pre, i < ops.size) → (∀ p ∈ pd, p.1 ∈ rest) → (pd.map (·.1)).Nodup → (pd.map (·.2)).Nodup → (∀ p ∈ pd, Pend c Z ops e w p) →
      pd.length ≤ rest.length → anyG P c ops N e.φ (rest.length - pd.length) listed (puts ops pd a) w := by
  intro m
  induction m with
  | zero =>
    intro rest pre pd l listed e st a w hm h hK ht hp hd hL hall hpre hpr hn1 hn2 hpe hle
    cases rest with
    | cons x rest => simp only [List.length_cons] at hm hle; omega
    | nil =>
      cases pd with
      | cons p pd => simp at hle
      | nil =>
        cases hp
        have h' : Sim c Z e st a w := h.widen (fun b hb => hb.1) (fun b hb => hb.1) rfl rfl rfl rfl
        refine ⟨?_, hN a w ⟨e, st, h', ht, hK⟩⟩
        cases hr : Region.ready .any ops listed with
        | nil => rfl
        | cons i is =>
          have hi : i ∈ Region.ready .any ops listed := by rw [hr]; simp
          obtain ⟨h1, o, ho, _⟩ := mem_ready.1 hi
          have hlt : i < ops.size := (Array.getElem?_eq_some_iff.1 ho).1
          exact absurd (by simpa using (hall i hlt).resolve_right (by simp)) ((hL.false_of hlt).1 h1)
  | succ m ihm =>
    intro rest pre pd l listed e st a w hm h hK ht hp hd hL hall hpre hpr hn1 hn2 hpe hle
    cases rest with
    | nil =>
      cases pd with
      | cons p pd => simp at hle
      | nil => exact ihm [] pre [] l listed e st a w (by simp) h hK ht hp hd hL hall hpre hpr hn1 hn2 hpe hle
    | cons x rest =>
      simp only [pickOps] at hp
      cases hox : ops.toList[x]? with
      | none => simp [hox] at hp
      | some o =>
        cases hpk : pickOps ops.toList rest with
        | none => simp [hox, hpk] at hp
        | some l' =>
          simp only [hox, hpk, Option.some.injEq] at hp
          subst hp
          have hx : ops[x]? = some o := by simpa using hox
          have hxlt : x < ops.size := (Array.getElem?_eq_some_iff.1 hx).1
          have hd0 := hd
          simp only [drawFrom, hox] at hd
          simp only [Bool.and_eq_true, Bool.not_eq_true'] at hd
          obtain ⟨⟨⟨⟨d1, d2⟩, d3⟩, d4⟩, d5⟩ := hd
          have hxpre : x ∉ pre := by rw [← nmem_iff, d2]; simp
          have hxrest : x ∉ rest := by rw [← nmem_iff, d3]; simp
          have hall' : ∀ i, i < ops.size → i ∈ x :: pre ∨ i ∈ rest := by
            intro i hi
            rcases hall i hi with h1 | h1
            · exact .inl (by simp [h1])
            · rcases List.mem_cons.1 h1 with h1 | h1
              · exact .inl (by simp [h1])
              · exact .inr h1
          have hpre' : ∀ i ∈ x :: pre, i < ops.size := by
            intro i hi
            rcases List.mem_cons.1 hi with rfl | hi
            · exact hxlt
            · exact hpre i hi
          have hKfull := hK
          simp only [opsK] at hK
          have hpal : ∀ p ∈ pd, ∃ q, ops[p.1]? = some q ∧ isAl q = true := fun p hp => by
            obtain ⟨q, _, _, _, _, _, h1, h2, _⟩ := (hpe p hp).row
            exact ⟨q, h1, h2⟩
          unfold stepK at hK
          obtain ⟨st', go, h', hK, hw⟩ := guard_ok h hK
          have hselo : ∀ cs b, o.op ≠ .select cs b := fun cs b => hsel x o cs b hx
          by_cases hxp : x ∈ pd.map (·.1)
          · -- it was made already: it is taken up
            obtain ⟨⟨x', b⟩, hpx, hxe⟩ := List.mem_map.1 hxp
            have hxe : x' = x := hxe
            subst hxe
            obtain ⟨o', t, I, d, arr, T, k1, k2, k3, k4, k5, k6, k7⟩ := (hpe _ hpx).row
            rw [hx] at k1; cases k1
            obtain ⟨_, _, _, _, hgn, hne⟩ := isAl_spec k2
            have hgo : go = true := by
              rw [← hw]; simp [Region.wanted, hgn]
            subst hgo
            have hrd : (isRd o && !mvAs c o) = false := by simp [isRd, k3]
            simp only [hrd, cond_false] at d4
            obtain ⟨pl, pr, rfl⟩ := List.append_of_mem hpx
            have hbn : b ∉ (pl ++ pr).map (·.2) := by
              have : ((pl ++ (x', b) :: pr).map (·.2)).Nodup := hn2
              simp only [List.map_append, List.map_cons, List.nodup_append, List.nodup_cons, List.mem_cons] at this
              simp only [List.map_append, List.mem_append, not_or]
              exact ⟨fun hm => this.2.2 b hm b (by simp) rfl, this.2.1.1⟩
            have hxn : x' ∉ (pl ++ pr).map (·.1) := by
              have : ((pl ++ (x', b) :: pr).map (·.1)).Nodup := hn1
              simp only [List.map_append, List.map_cons, List.nodup_append, List.nodup_cons, List.mem_cons] at this
              simp only [List.map_append, List.mem_append, not_or]
              exact ⟨fun hm => this.2.2 x' hm x' (by simp) rfl, this.2.1.1⟩
            have hsubp : ∀ p ∈ pl ++ pr, p ∈ pl ++ (x', b) :: pr := fun p hp => by
              simp only [List.mem_append, List.mem_cons] at hp ⊢
              rcases hp with hp | hp
              · exact .inl hp
              · exact .inr (.inr hp)
            have hsim : Sim c (Z.outs ((pl ++ pr).map (·.2))) e st' a w := by
              refine h'.widen (fun u hu => ⟨hu.1, fun hm => hu.2 ?_⟩) (fun u hu => ⟨hu.1, fun hm => hu.2 ?_⟩) rfl rfl rfl rfl <;>
              · obtain ⟨p, hp, rfl⟩ := List.mem_map.1 hm
                exact List.mem_map.2 ⟨p, hsubp p hp, rfl⟩
            have hbin : b ∈ (pl ++ (x', b) :: pr).map (·.2) := by simp
            have hnew : NewRep (Z.outs ((pl ++ pr).map (·.2))) e w st' (vOf b) (.box I.zero) := by
              refine ⟨b, by rw [bptr_p (k7 e).notMp]; rfl, ⟨⟨(hpe _ hpx).zone, hbn⟩, ⟨_, k6, rfl, k7 e⟩, (hpe _ hpx).free⟩, fun t' cs' ht' hbb => ?_, fun f o' ho' hbb => ?_⟩
              · have hs := h'.slot t'
                rw [ht'] at hs
                rcases hs.2.zone with ⟨_, u⟩ | u
                · exact u.2 (by rw [hbb]; exact hbin)
                · exact u.2 (by rw [hbb]; exact hbin)
              · obtain ⟨I', cells, g1, g2, g3, g4, g5⟩ := (h'.fam f o' ho').row
                rcases (g5 b hbb).1 with ⟨_, u⟩ | u
                · exact u.2 hbin
                · exact u.2 hbin
            simp only [cond_true, opK, k3, k4] at hK
            obtain ⟨e2, st2, j1, j2, j3⟩ := setDst_sim hsim hnew hK
            have hput : puts ops (pl ++ (x', b) :: pr) a = puts ops (pl ++ pr) (a.put o.dst (vOf b)) := by
              have hap : ∀ p ∈ pl ++ pr, ∀ dd, dstOf ops p.1 = some dd → o.dst ≠ some dd := by
                intro p hp dd hdd
                obtain ⟨q, hq, hal⟩ := hpal p (hsubp p hp)
                have hpr' : p.1 ∈ rest := by
                  rcases List.mem_cons.1 (hpr p (hsubp p hp)) with he | he
                  · exact absurd (List.mem_map.2 ⟨p, hp, he⟩) hxn
                  · exact he
                have := List.all_eq_true.1 d4 p.1 hpr'
                have hq' : ops.toList[p.1]? = some q := by simpa using hq
                simp only [hq', hal, cond_true, Bool.and_eq_true] at this
                exact (apart_al hq (.inl (apartL_ok this.1)) dd hdd).2
              exact puts_mid (by simp [dstOf, hx]) a pr pl hap
            rw [hput, ← j3]
            have hlen : (x' :: rest).length - (pl ++ (x', b) :: pr).length = rest.length - (pl ++ pr).length := by simp only [List.length_cons, List.length_append]; omega
            rw [hlen]
            refine ihm rest (x' :: pre) (pl ++ pr) l' listed e2 st2 _ w ?_ j1 j2 (by rw [j3]; exact ht) hpk d5 ?_ hall' hpre' ?_ ?_ ?_ ?_ ?_
            · simp only [List.length_cons, List.length_append] at hm ⊢; omega
            · refine hL.congr (fun i => ?_)
              simp only [List.map_append, List.map_cons, List.mem_append, List.mem_cons]
              constructor
              · rintro ((h1 | h1 | h1) | h1)
                · exact .inl (.inl h1)
                · exact .inr (.inl h1)
                · exact .inl (.inr h1)
                · exact .inr (.inr h1)
              · rintro ((h1 | h1) | h1 | h1)
                · exact .inl (.inl h1)
                · exact .inl (.inr (.inr h1))
                · exact .inl (.inr (.inl h1))
                · exact .inr h1
            · intro p hp
              rcases List.mem_cons.1 (hpr p (hsubp p hp)) with he | he
              · exact absurd (List.mem_map.2 ⟨p, hp, he⟩) hxn
              · exact he
            · have : ((pl ++ (x', b) :: pr).map (·.1)).Nodup := hn1
              refine List.Nodup.sublist ?_ this
              exact List.Sublist.map _ (List.Sublist.append_left (List.sublist_cons_self _ _) pl)
            · have : ((pl ++ (x', b) :: pr).map (·.2)).Nodup := hn2
              refine List.Nodup.sublist ?_ this
              exact List.Sublist.map _ (List.Sublist.append_left (List.sublist_cons_self _ _) pl)
            · intro p hp
              obtain ⟨q1, q2, q3⟩ := hpe p (hsubp p hp)
              exact ⟨q1, fun off => by rw [j3]; exact q2 off, q3⟩
            · simp only [List.length_cons, List.length_append] at hle ⊢; omega
          · have hpr' : ∀ p ∈ pd, p.1 ∈ rest := fun p hp => by
              rcases List.mem_cons.1 (hpr p hp) with he | he
              · exact absurd (List.mem_map.2 ⟨p, hp, he⟩) hxp
              · exact he
            have hlr : pd.length ≤ rest.length := by
              have h1 : (pd.map (·.1)).length ≤ rest.length := nodup_len hn1 (fun i hi => by obtain ⟨p, hp, rfl⟩ := List.mem_map.1 hi; exact hpr' p hp)
              simpa using h1
            have hfuel : (x :: rest).length - pd.length = (rest.length - pd.length) + 1 := by simp only [List.length_cons]; omega
            rw [hfuel]
            have hun : x ∉ pd.map (·.1) ++ pre := by simp only [List.mem_append, not_or]; exact ⟨hxp, hxpre⟩
            have hready : x ∈ Region.ready .any ops listed := by
              refine mem_ready.2 ⟨(hL.false_of hxlt).2 hun, o, hx, fun ed hed hb => ?_⟩
              have := List.all_eq_true.1 d1 ed (by simpa using hed)
              simp only [bindsB_eq, hb, Bool.not_true, Bool.false_or] at this
              have hm := (nmem_iff _ _).1 this
              exact (hL.done (hpre _ hm)).2 (by simp [hm])
            have next : ∀ (e' : Env) (st2 : St) (a' : Act) (w' : World), Sim c (Z.outs (pd.map (·.2))) e' st2 a' w' → Trans (Z.outs (pd.map (·.2))).In e.φ w e'.φ w' → opsK c ops.toList l' st2 K = some r → anyG P c ops N e.φ (rest.length - pd.length) (listed.setIfInBounds x true) (puts ops pd a') w' := by
              intro e' st2 a' w' h1 t1 hK1
              refine anyG_mono t1.ph _ _ _ _ ?_
              refine ihm rest (x :: pre) pd l' _ e' st2 a' w' ?_ h1 hK1 (ht.trans (t1.wide fun b hb => hb.1)) hpk d5 ((hL.set hxlt).congr fun i => ?_) hall' hpre' hpr' hn1 hn2 (fun p hp => (hpe p hp).later (List.mem_map.2 ⟨p, hp, rfl⟩) t1) hlr
              · simp only [List.length_cons] at hm; omega
              · simp only [List.mem_cons, List.mem_append]
                constructor
                · rintro (h1 | h1 | h1)
                  · exact .inr (.inl h1)
                  · exact .inl h1
                  · exact .inr (.inr h1)
                · rintro (h1 | h1 | h1)
                  · exact .inr (.inl h1)
                  · exact .inl h1
                  · exact .inr (.inr h1)
            cases hrd : isRd o && !mvAs c o with
            | true =>
              simp only [hrd, cond_true] at d4
              have hap : ∀ p ∈ pd, ∀ dd, dstOf ops p.1 = some dd → dd ∉ o.looksAt ops ∧ o.dst ≠ some dd := by
                intro p hp
                obtain ⟨q, hq, hal⟩ := hpal p hp
                exact apart_al hq (.inr (freeRest_al rest [x] d4 p.1 (hpr' p hp) q hq hal))
              obtain ⟨hex, hwn⟩ := execOp_puts hselo a pd (fun p hp d hd => (hap p hp d hd).1)
              obtain ⟨D, D1, D2, D3, D4⟩ := freeRest_spec rest [x] d4 (fun y hy hne => absurd (by simpa using hy) hne)
              have hfree : ∀ j oj, ops[j]? = some oj → j ∉ D → j ≠ x → listed.getD j true = false → o.apart ops oj = true ∧ (isLr c o = true → still c o = false → growAt c o ops j = true) := by
                intro j oj hoj hjD hjx hjun
                have hjlt : j < ops.size := (Array.getElem?_eq_some_iff.1 hoj).1
                have hjr : j ∈ rest := by
                  rcases hall' j hjlt with h1 | h1
                  · rcases List.mem_cons.1 h1 with h1 | h1
                    · exact absurd h1 hjx
                    · exact absurd (by simp [h1]) ((hL.false_of hjlt).1 hjun)
                  · exact h1
                obtain ⟨p, hp1, hp2, hp3⟩ := D4 j hjr hjD
                rw [hoj] at hp1
                cases hp1
                exact ⟨hp2, fun hl hs => by simp [growAt, hoj, hp3 hl hs]⟩
              have hdis : ∀ d ∈ D, listed.getD d false = false := by
                -- what is behind x is not done: those that wait are behind nothing
                have hpdD : ∀ p ∈ pd, p.1 ∉ D := by
                  intro p hp hpD
                  obtain ⟨q, hq, hal⟩ := hpal p hp
                  obtain ⟨ed, hed, hb, _⟩ := D3 p.1 q hpD (fun he => hxp (List.mem_map.2 ⟨p, hp, he⟩)) hq
                  obtain ⟨_, _, _, _, _, hne⟩ := isAl_spec hal
                  rw [hne ed hed] at hb; cases hb
                intro d hd
                have hdn : d ∉ pd.map (·.1) ++ pre := by
                  simp only [List.mem_append, not_or]
                  constructor
                  · intro hm
                    obtain ⟨p, hp, rfl⟩ := List.mem_map.1 hm
                    exact hpdD p hp hd
                  · rcases D2 d hd with h1 | h1
                    · have h1 : d = x := by simpa using h1
                      rw [h1]; exact hxpre
                    · exact fun hp => drawFrom_fresh rest (x :: pre) d5 d h1 (by simp [hp])
                by_cases hdl : d < ops.size
                · cases hg : listed.getD d false with
                  | false => rfl
                  | true => exact absurd ((hL.done hdl).1 hg) hdn
                · have hl : ¬ d < listed.size := by rw [hL.size]; exact hdl
                  simp [hl]
              cases go with
              | true =>
                simp only [cond_true] at hK
                obtain ⟨v, hv, e2, st2, k1, k2, k3⟩ := (op_all (Q := Only N) hG h' hK).rdOf (by simp only [Bool.and_eq_true] at hrd; exact hrd.1) (by simp only [Bool.and_eq_true, Bool.not_eq_true'] at hrd; exact hrd.2)
                refine anyG_first D3 hx hsel (rest.length - pd.length) listed _ w hfree hdis hready (.inl ⟨by rw [hwn]; exact hw, fun w' hg => by rw [hex]; exact hv w' hg⟩) h.imm ?_
                rw [puts_put a o.dst v pd (fun p hp d hd => (hap p hp d hd).2)]
                exact next e2 st2 _ w k1 k2 k3
              | false =>
                simp only [cond_false] at hK
                obtain ⟨e2, st2, k1, k2, k3⟩ := setDst_sim (v := undef) (s := .skip) h' ⟨rfl, trivial⟩ hK
                refine anyG_first D3 hx hsel (rest.length - pd.length) listed _ w hfree hdis hready (.inr ⟨by rw [hwn]; exact hw, rfl⟩) h.imm ?_
                rw [puts_put a o.dst undef pd (fun p hp d hd => (hap p hp d hd).2)]
                exact next e2 st2 _ w k1 (by rw [k3]; exact .refl _ _ _) k2
            | false =>
              simp only [hrd, cond_false] at d4
              have hap : ∀ p ∈ pd, ∀ dd, dstOf ops p.1 = some dd → dd ∉ o.looksAt ops ∧ o.dst ≠ some dd := by
                intro p hp
                obtain ⟨q, hq, hal⟩ := hpal p hp
                have := List.all_eq_true.1 d4 p.1 (hpr' p hp)
                have hq' : ops.toList[p.1]? = some q := by simpa using hq
                simp only [hq', hal, cond_true, Bool.and_eq_true] at this
                exact apart_al hq (.inl (apartL_ok this.1))
              refine ⟨fun hr0 => (by rw [hr0] at hready; cases hready), fun i hi => ?_⟩
              obtain ⟨hun', oi, hoi, hedges⟩ := mem_ready.1 hi
              have hilt : i < ops.size := (Array.getElem?_eq_some_iff.1 hoi).1
              have hin := (hL.false_of hilt).1 hun'
              simp only [List.mem_append, not_or] at hin
              by_cases hix : i = x
              · subst hix
                rw [hx] at hoi; cases hoi
                have hsim : wpOp P ops (Only N) i (fun a' w' => (∀ oi, growAt c oi ops i = true → GrowFor c oi w w') ∧ ∃ e2 st2, Sim c (Z.outs (pd.map (·.2))) e2 st2 a' w' ∧ Trans (Z.outs (pd.map (·.2))).In e.φ w e2.φ w' ∧ opsK c ops.toList l' st2 K = some r) a w := by
                  unfold wpOp
                  simp only [hx]
                  rw [hw]
                  cases go with
                  | true =>
                    simp only [cond_true] at hK
                    simp only [if_true]
                    left
                    have hd := op_all (Q := Only N) hG h' hK
                    cases hgr : grAt c o with
                    | true =>
                      simp only [grAt, Bool.or_eq_true] at hgr
                      refine Oper.wp_mono ?_ (hd.grOf hgr)
                      rintro a' w' ⟨hg, e2, st2, k1, k2, k3⟩
                      exact ⟨fun _ _ => hg.for, e2, st2, k1, k2, k3⟩
                    | false =>
                      by_cases hme : ∃ oi, entOK oi o = true
                      · obtain ⟨oi0, hme⟩ := hme
                        refine Oper.wp_mono ?_ (op_me (Q := Only N) hG h' hK hme)
                        rintro a' w' ⟨hg, e2, st2, k1, k2, k3⟩
                        refine ⟨fun oi hh => ?_, e2, st2, k1, k2, k3⟩
                        have hoi : entOK oi o = true := by simpa [growAt, hx, hgr] using hh
                        exact entOK_same hme hoi hg
                      · refine Oper.wp_mono ?_ hd.wp
                        rintro a' w' ⟨e2, st2, k1, k2, k3⟩
                        exact ⟨fun oi hh => absurd ⟨oi, by simpa [growAt, hx, hgr] using hh⟩ hme, e2, st2, k1, k2, k3⟩
                  | false =>
                    simp only [cond_false] at hK
                    simp only [Bool.false_eq_true, if_false]
                    obtain ⟨e2, st2, k1, k2, k3⟩ := setDst_sim (v := undef) (s := .skip) h' ⟨rfl, trivial⟩ hK
                    exact ⟨fun _ _ => (Grow.refl w).for, e2, st2, k1, by rw [k3]; exact .refl _ _ _, k2⟩
                refine wpOp_mono ?_ (op_puts hx hselo hsim pd hap)
                rintro a' w' ⟨a2, rfl, hg, e2, st2, k1, k2, k3⟩
                exact ⟨⟨hg, fun b o v hv => k1.imm b o v (k2.ph b o v hv)⟩, next e2 st2 a2 w' k1 k2 k3⟩
              · have hir : i ∈ rest := by
                  rcases hall' i hilt with h1 | h1
                  · rcases List.mem_cons.1 h1 with h1 | h1
                    · exact absurd h1 hix
                    · exact absurd h1 hin.2
                  · exact h1
                have hchk := List.all_eq_true.1 d4 i hir
                have hoi' : ops.toList[i]? = some oi := by simpa using hoi
                simp only [hoi'] at hchk
                cases hal : isAl oi with
                | false =>
                  exfalso
                  simp only [hal, cond_false] at hchk
                  unfold edgeTo at hchk
                  obtain ⟨ed, hed, hb⟩ := List.any_eq_true.1 hchk
                  simp only [Bool.and_eq_true, bindsB_eq, Bool.or_eq_true, Bool.not_eq_true'] at hb
                  obtain ⟨hb1, hb2⟩ := hb
                  have hdone := hedges ed (by simpa using hed) hb1
                  have hnl : ed.on ∉ pd.map (·.1) ++ pre := by
                    rcases hb2 with hb2 | ⟨hb2, hb3⟩
                    · rw [Nat.eq_of_beq_eq_true hb2]; exact hun
                    · simp only [List.mem_append, not_or]
                      refine ⟨fun hm => ?_, fun hp => drawFrom_fresh rest (x :: pre) d5 _ ((nmem_iff _ _).1 hb2) (by simp [hp])⟩
                      obtain ⟨p, hp, he⟩ := List.mem_map.1 hm
                      obtain ⟨q, hq, hqa⟩ := hpal p hp
                      have hq' : ops.toList[ed.on]? = some q := by rw [← he]; simpa using hq
                      simp [alAt, hq', hqa] at hb3
                  by_cases hon : ed.on < ops.size
                  · exact hnl ((hL.done hon).1 hdone)
                  · have : listed.getD ed.on false = false := by
                      have hl : ¬ ed.on < listed.size := by rw [hL.size]; exact hon
                      simp [hl]
                    rw [this] at hdone; cases hdone
                | true =>
                  obtain ⟨t, d, q1, q2, q3, q4⟩ := isAl_spec hal
                  -- its row of types, out of the order's own later step
                  have hI : ∃ I, c.tv t = some I := by
                    simp only [hal, cond_true, Bool.and_eq_true, alTv, q1] at hchk
                    cases htv : c.tv t with
                    | none => rw [htv] at hchk; exact absurd hchk.2 (by simp)
                    | some I => exact ⟨I, rfl⟩
                  obtain ⟨I, hI⟩ := hI
                  obtain ⟨inf, z, hz1, hz2, hz3⟩ := alloc_zero hI hG.ti
                  have hg : Grow w (w.alloc (.cells z.cells t)) := .alloc w _ _
                  unfold wpOp
                  simp only [hoi]
                  have hwn : Region.wanted oi (yielded ops (puts ops pd a).tmps) = true := by simp [Region.wanted, q3]
                  simp only [hwn, if_true]
                  left
                  have hrun : (execOp (puts ops pd a).eval oi).run P w = .ok (.value (vOf w.heap.size)) (w.alloc (.cells z.cells t)) := by
                    simp [execOp, q1, Instr.alloc, zeroValue, typeInfo, hz1, hz2, newVar, newRow, newObj, Sem.run, vOf]
                  unfold Oper.wp
                  rw [hrun]
                  simp only [Oper.upon]
                  refine ⟨⟨fun _ _ => hg.for, (h.grow hg).imm⟩, ?_⟩
                  have hsz : w.heap.size < (w.alloc (.cells z.cells t)).heap.size := by simp
                  have hblt : ∀ p ∈ pd, p.2 < w.heap.size := fun p hp => by
                    obtain ⟨_, _, _, _, _, _, _, _, _, _, _, k6, _⟩ := (hpe p hp).row
                    exact lt_of_heap k6
                  have hput : (puts ops pd a).put oi.dst (vOf w.heap.size) = puts ops ((i, w.heap.size) :: pd) a := by simp [puts, dstOf, hoi]
                  rw [hput]
                  have hlt : pd.length < rest.length := by
                    have h1 : (i :: pd.map (·.1)).length ≤ rest.length := by
                      refine nodup_len (List.nodup_cons.2 ⟨hin.1, hn1⟩) ?_
                      intro j hj
                      rcases List.mem_cons.1 hj with rfl | hj
                      · exact hir
                      · obtain ⟨p, hp, rfl⟩ := List.mem_map.1 hj; exact hpr' p hp
                    simp only [List.length_cons, List.length_map] at h1; omega
                  have hf2 : rest.length - pd.length = (x :: rest).length - ((i, w.heap.size) :: pd).length := by simp only [List.length_cons]; omega
                  rw [hf2]
                  refine ihm (x :: rest) pre ((i, w.heap.size) :: pd) (o :: l') _ e st a _ ?_ (h.narrow hg hsz) ?_ (ht.trans (hg.trans (fun b hb => (h.zone b hb).1) _)) ?_ hd0 ?_ hall hpre ?_ ?_ ?_ ?_ ?_
                  · simp only [List.length_cons] at hm ⊢; omega
                  · exact hKfull
                  · simp [pickOps, hox, hpk]
                  · refine (hL.set hilt).congr (fun j => ?_)
                    simp
                  · intro p hp
                    rcases List.mem_cons.1 hp with rfl | hp
                    · exact List.mem_cons_of_mem _ hir
                    · exact hpr p hp
                  · exact List.nodup_cons.2 ⟨hin.1, hn1⟩
                  · refine List.nodup_cons.2 ⟨fun hm => ?_, hn2⟩
                    obtain ⟨p, hp, he⟩ := List.mem_map.1 hm
                    have := hblt p hp
                    have he : p.2 = w.heap.size := he
                    omega
                  · intro p hp
                    rcases List.mem_cons.1 hp with rfl | hp
                    · refine ⟨⟨oi, t, I, d, z.cells, t, hoi, hal, q1, hI, q2, heapNew w _, hz3⟩, fun off => ?_, (h.zone _ (Nat.le_refl _)).1⟩
                      cases hp : e.φ w.heap.size off with
                      | none => rfl
                      | some v =>
                        have := World.block_lt_of_cell? w _ (h.imm _ _ _ hp)
                        simp at this
                    · obtain ⟨⟨o1, t1, I1, d1, arr1, T1, k1, k2, k3, k4, k5, k6, k7⟩, q5, q6⟩ := hpe p hp
                      exact ⟨⟨o1, t1, I1, d1, arr1, T1, k1, k2, k3, k4, k5, by rw [hg.old _ (lt_of_heap k6)]; exact k6, k7⟩, q5, q6⟩
                  · simp only [List.length_cons]; omega

theorem draw_any (hG : Good P c) {ops : Array Oper} {l : List Oper} {ord : List Nat} (hd : drawOK c ops ord = true) (hp : pickOps ops.toList ord = some l) {Z : Zone} {e : Env} {st : St} {a : Act} {w : World} {R : Type} {K : St → Option R} {r : R} (h : Sim c Z e st a w) (hK : opsK c ops.toList l st K = some r) :
    wpAny P .any ops (Only fun a' w' => Out c Z K r e.φ w a' w') ops.size (Array.replicate ops.size false) a { w with drawn := w.drawn + 1 } := by
  simp only [drawOK, Bool.and_eq_true] at hd
  obtain ⟨⟨⟨hns, hl0⟩, hall⟩, hd⟩ := hd
  have hsel : ∀ (j : Nat) (o : Oper) cs b, ops[j]? = some o → o.op ≠ .select cs b := by
    intro j o cs b ho he
    have := List.all_eq_true.1 hns o (List.mem_of_getElem? (by simpa using ho : ops.toList[j]? = some o))
    simp [he] at this
  have hgrow : Grow w { w with drawn := w.drawn + 1 } := ⟨Nat.le_refl _, fun _ _ => rfl, rfl, rfl, rfl, fun _ => rfl⟩
  · refine anyG_any (c := c) (φ := e.φ) _ _ _ _ ?_
    have hlen : ord.length = ops.size := by have := Nat.eq_of_beq_eq_true hl0; simpa using this
    rw [← hlen]
    have h0 : Sim c (Z.outs []) e st a { w with drawn := w.drawn + 1 } := (h.grow hgrow).widen (fun b hb => ⟨hb, by simp⟩) (fun b hb => ⟨hb, by simp⟩) rfl rfl rfl rfl
    refine draw_ok hG hsel (fun a' w' h => h) (2 * ord.length) ord [] [] l _ e st a _ (by simp) h0 hK (hgrow.trans h.zone e.φ) hp hd ⟨by simp [hlen], fun i hi => ?_⟩ (fun i hi => .inr ((nmem_iff _ _).1 (List.all_eq_true.1 hall i (by simpa using hi)))) (by simp) (by simp) (by simp) (by simp) (by simp) (by simp)
    simp [hlen, hi]
end

end Dn
/-
  What is asked of slices.DeleteFunc, and of the function that it is handed. Conditions: none.
-/
set_option linter.unusedSimpArgs false
set_option linter.unusedVariables false
namespace Dn
open Go
/-! ### what a function that is handed on does -/
/-- what is asked of a function that is handed on: what it needs, for a state; the memory that is its own -/
structure PredOK (P : Program) (c : Ctx) (g : Nat) (lb : Array Value) {S : Type} (Inv : S → (Nat → Prop) → Ph → World → Prop) (step : S → MV → Option (Bool × S)) : Prop where
  call : ∀ {s Z φ W v x b s'}, Inv s Z φ W → (∀ b, W.heap.size ≤ b → Z b) → Imm φ W → ArgRep c.key φ v x → step s x = some (b, s') →
    CallOK P g (#[v] ++ lb) W fun r W' => r = .bool b ∧ ∃ φ', Trans Z φ W φ' W' ∧ Imm φ' W' ∧ Inv s' Z φ' W'
  frame : ∀ {s Z φ W W'}, Inv s Z φ W → W.heap.size ≤ W'.heap.size → (∀ b, Z b → b < W.heap.size → W'.heap[b]? = W.heap[b]?) → Inv s (fun b => Z b ∧ b < W.heap.size) φ W'
  mono : ∀ {s Z Z' φ W}, Inv s Z φ W → (∀ b, Z b → Z' b) → Inv s Z' φ W

/-- the memory of a walk: what others own is as it was; the row, but for what is written -/
structure Walk (c : Ctx) (ob : Option Nat) {S : Type} (Inv : S → (Nat → Prop) → Ph → World → Prop) (Z0 : Nat → Prop) (φ0 : Ph) (w0 : World) (s : S) (Z : Nat → Prop) (φ : Ph) (W : World) : Prop where
  inv : Inv s Z φ W
  new : ∀ b, W.heap.size ≤ b → Z b
  sub : ∀ b, Z b → Z0 b ∨ w0.heap.size ≤ b
  imm : Imm φ W
  tr : Trans (fun b => (Z0 b ∨ w0.heap.size ≤ b) ∨ ob = some b) φ0 w0 φ W
  free : ∀ b off, ob = some b → φ b off = none
/-- what slices.DeleteFunc does -/
structure DelSem (P : Program) (c : Ctx) (h el : Nat) : Prop where
  run : ∀ {S : Type} {Inv : S → (Nat → Prop) → Ph → World → Prop} {step : S → MV → Option (Bool × S)} {g : Nat} {lb : Array Value}, PredOK P c g lb Inv step →
    ∀ {v0 : Value} {xs ys : List MV} {w : World} {Z0 : Nat → Prop} {φ0 : Ph} {s0 s' : S}, (∀ x ∈ xs, ∃ ms, x = .agg ms) → FamOK c (Zone.plain fun b => v0.ownBlock = some b) (env0 c.key φ0) w v0 ⟨el, false, xs⟩ → (∀ b, v0.ownBlock = some b → ¬ Z0 b) →
    Inv s0 Z0 φ0 w → (∀ b, w.heap.size ≤ b → Z0 b) → Imm φ0 w → delF step s0 xs = some (ys, s') →
    CallOK P h #[v0, .func (.func g) #[] lb] w fun v W => ∃ Z φ, Walk c v0.ownBlock Inv Z0 φ0 w s' Z φ W ∧ FamOK c (Zone.plain fun b => v0.ownBlock = some b) (env0 c.key φ) W v ⟨el, false, ys⟩ ∧ ∀ b, v.ownBlock = some b → v0.ownBlock = some b
def DelsOK (P : Program) (c : Ctx) : Prop := ∀ h, c.dels h = true → DelSem P c h (c.fty (c.key h))
end Dn
