import Derived.Test.YtjblhgpbkfmkoaaDnB
import Derived.Test.YtjblhgpbkfmkoaaDnC
import Derived.Laws.CopyRow
import Derived.Lib.AppendZerosOnto
import Derived.Lib.Overlaps
import Derived.Laws.Externs
import Derived.Control
import Derived.Maps.RangeRun
import Derived.ScopeJumps
/-
  Regions with a call of slices.DeleteFunc. Conditions: none.
-/
set_option linter.unusedSimpArgs false
set_option linter.unusedVariables false
namespace Dn
open Go
section
variable {P : Program} {c : Ctx} {Z : Zone} {Z' : Nat → Prop} {e e' : Env} {st st' : St} {a : Act} {w w' : World} {R : Type} {K : St → Option R} {r : R} {Q : Exit → Act → World → Prop} {o : Oper} {root : Nat} {cs : List Leaf} {ks : List LK} {ls outs : List MV} {ps : List (Nat × Nat)} {φ' : Ph}
theorem back_simX (h : Sim c Z e st a w) (hf : fget st.fr root = .box cs) (hm : isMp cs = false) (hr : nmem st.prot root = false) (ht : TC st [] ks cs ls ps) (hZ : ∀ b, Z' b ↔ w.heap.size ≤ b ∨ gone e root ps b) {X : Nat → Prop} (hXb : ∀ t cs', fget st.fr t = .box cs' → ¬ X (e.B t)) (hXf : ∀ f o b, oget st.fams f = some o → (e.E f).ownBlock = some b → ¬ X b) (htr : Trans (fun b => Z' b ∨ X b) e.φ w φ' w') (hi : Imm φ' w')
    (hc : CellIn c Z' φ' w' (e.B root) ks outs) (hK : backK st root ks ps outs K = some r) : ∃ e' st', Sim c Z e' st' a w' ∧ e'.φ = φ' ∧ (∀ b, X b → ¬ Z' b → (∀ t cs', fget st'.fr t = .box cs' → e'.B t ≠ b) ∧ ∀ f o, oget st'.fams f = some o → (e'.E f).ownBlock ≠ some b) ∧ K st' = some r := by
  unfold backK at hK
  obtain ⟨cs2, rest, st0, g1, hK⟩ := giveLKs_get hK
  cases rest with
  | cons => simp [gN] at hK
  | nil =>
  simp only [gN, odelK_eq] at hK
  cases hcond : anyIn (lkFams ks) (odelP (famsOf ps) st.fams) || meets (lkFams ks) st.pfam with
  | true => simp [hcond] at hK
  | false =>
  simp only [hcond, cond_false, kFrs_eq, fset_eq, app_eq] at hK
  obtain ⟨hany, hmeet⟩ := Bool.or_eq_false_iff.1 hcond
  have hany := anyIn_spec hany
  have hmeet := meets_spec hmeet
  obtain ⟨cs3, m3, E, arr, T, hcel, hheap, hzb, hfree, hlv, hfam, hff⟩ := hc
  have heq : cs3 = cs2 ∧ m3 = st0.fams := by
    unfold celSt at hcel
    rw [g1] at hcel
    simp only [gN, Option.some.injEq, Prod.mk.injEq] at hcel
    exact ⟨hcel.1.symm, hcel.2.symm⟩
  obtain ⟨rfl, rfl⟩ := heq
  have hown := giveLKs_leaves g1
  have hsub : ∀ f o, oget st0.fams f = some o → f ∈ lkFams ks := fun f o ho => (giveLKs_fams g1 f o ho).resolve_left (by simp [oget])
  have hs := h.slot root
  rw [hf] at hs
  have hin : ∀ b, Z' b → Z.In b := by
    intro b hb
    rcases (hZ b).1 hb with hb | hb
    · exact h.zone b hb
    · exact gone_in h hf hr ht b hb
  have hnbox : ∀ t cs', fget st.fr t = .box cs' → t ≠ root → ¬ Z' (e.B t) := by
    intro t cs' htb hne hz
    rcases (hZ _).1 hz with hz | hz | ⟨x, g, hp, hz⟩
    · have := box_lt h htb; omega
    · exact h.bb t root cs' cs htb hf hne hz
    · obtain ⟨o, ho, _⟩ := ht.fams x g hp
      exact h.bf t cs' g o htb ho hz
  have hold : ∀ f o, oget (odelP (famsOf ps) st.fams) f = some o → oget st.fams f = some o ∧ f ∉ famsOf ps := by
    intro f o ho
    rw [oget_odelP] at ho
    cases hn : nmem (famsOf ps) f with
    | true => simp [hn] at ho
    | false =>
      simp only [hn, Bool.false_eq_true, if_false] at ho
      exact ⟨ho, fun hm => by rw [(nmem_iff _ _).2 hm] at hn; cases hn⟩
  have hnfam : ∀ f o b, oget (odelP (famsOf ps) st.fams) f = some o → (e.E f).ownBlock = some b → ¬ Z' b := by
    intro f o b ho hb hz
    obtain ⟨ho', hnf⟩ := hold f o ho
    rcases (hZ _).1 hz with hz | hz | ⟨x, g, hp, hz⟩
    · have := fam_lt h ho' hb; omega
    · exact h.bf root cs f o hf ho' (by rw [hb, hz])
    · obtain ⟨o2, ho2, _⟩ := ht.fams x g hp
      have := h.ff f g o o2 b ho' ho2 hb hz
      subst this
      exact hnf (famsOf_spec.2 ⟨x, hp⟩)
  have hnbox' : ∀ t cs', fget st.fr t = .box cs' → t ≠ root → ¬ (Z' (e.B t) ∨ X (e.B t)) := fun t cs' h1 h2 h3 => h3.elim (hnbox t cs' h1 h2) (hXb t cs' h1)
  have hnfam' : ∀ f o b, oget (odelP (famsOf ps) st.fams) f = some o → (e.E f).ownBlock = some b → ¬ (Z' b ∨ X b) := fun f o b h1 h2 h3 => h3.elim (hnfam f o b h1 h2) (hXf f o b (hold f o h1).1 h2)
  let E2 : Nat → Value := fun f => if nmem (lkFams ks) f = true then E f else e.E f
  have hE2 : ∀ f, f ∈ lkFams ks → E2 f = E f := fun f hf => by show (if _ then _ else _) = _; rw [if_pos ((nmem_iff _ _).2 hf)]
  have hE3 : ∀ f, f ∉ lkFams ks → E2 f = e.E f := fun f hf => by show (if _ then _ else _) = _; rw [if_neg (fun hq => hf ((nmem_iff _ _).1 hq))]
  have hget : ∀ f o, oget (st0.fams ++ odelP (famsOf ps) st.fams) f = some o → (f ∈ lkFams ks ∧ oget st0.fams f = some o) ∨ (f ∉ lkFams ks ∧ oget (odelP (famsOf ps) st.fams) f = some o) := by
    intro f o ho
    rw [oget_app2] at ho
    cases hq : oget st0.fams f with
    | some o2 => simp only [hq, Option.some.injEq] at ho; exact .inl ⟨hsub f o2 hq, by rw [ho]⟩
    | none =>
      simp only [hq] at ho
      refine .inr ⟨fun hm => ?_, ho⟩
      rw [hany f hm] at ho; cases ho
  let e2 : Env := ⟨e.key, φ', E2, e.B, st0.fams ++ odelP (famsOf ps) st.fams⟩
  have hon : EnvOn (fun g => True ∧ g ∉ lkFams ks) (fun _ => True) e e2 := by
    refine ⟨rfl, htr.ph, fun _ _ => rfl, fun f o' ho' hS => ?_⟩
    rcases hget f o' ho' with ⟨h1, _⟩ | ⟨h1, h2⟩
    · exact absurd h1 hS.2
    · exact ⟨o', by rw [h.m]; exact (hold f o' h2).1, hE3 f h1, rfl⟩
  have hlv2 : LeavesRep e2 arr.toList cs3 := by
    have hon3 : EnvOn (fun f => f ∈ lkFams ks) (fun _ => True) ⟨c.key, φ', E, fun _ => e.B root, st0.fams⟩ ⟨c.key, φ', E2, fun _ => e.B root, st0.fams ++ odelP (famsOf ps) st.fams⟩ := by
      refine ⟨rfl, .refl _, fun _ _ => rfl, fun f o' ho' hS => ?_⟩
      rcases hget f o' ho' with ⟨h1, h2⟩ | ⟨h1, _⟩
      · exact ⟨o', h2, hE2 f h1, rfl⟩
      · exact absurd hS h1
    have h1 := hlv.on hon3 hown
    have hon4 : EnvOn (fun _ => True) (fun _ => False) ⟨c.key, φ', E2, fun _ => e.B root, st0.fams ++ odelP (famsOf ps) st.fams⟩ e2 := ⟨h.key, .refl _, fun _ h => h.elim, fun f o ho _ => ⟨o, ho, rfl, rfl⟩⟩
    exact h1.on hon4 (fun _ _ _ _ => trivial)
  have hm3 : isMp cs3 = false := hlv2.notMp
  have hgt : ∀ t, fget (fsetP (kFrsP (lkFams ks) st.fr) root (.box cs3)) t = if t = root then .box cs3 else kSPs (lkFams ks) (fget st.fr t) := fun t => by rw [fget_fsetP, fget_kFrsP]
  have hboxes : ∀ t ds, fget (fsetP (kFrsP (lkFams ks) st.fr) root (.box cs3)) t = .box ds → ∃ ds0, fget st.fr t = .box ds0 := by
    intro t ds hb
    rw [hgt] at hb
    by_cases htr : t = root
    · exact ⟨cs, by rw [htr]; exact hf⟩
    · rw [if_neg htr] at hb
      obtain ⟨d0, h1, _⟩ := kSPs_boxInv _ hb
      exact ⟨d0, h1⟩
  refine ⟨e2, ⟨st.prot, st.pfam, fsetP (kFrsP (lkFams ks) st.fr) root (.box cs3), st0.fams ++ odelP (famsOf ps) st.fams⟩, ⟨h.defers, h.size, rfl, h.key, ?_, ?_, ?_, ?_, ?_, ?_, ?_, hi, fun b hb => h.zone b (Nat.le_trans htr.size hb)⟩, rfl, fun b hb hnz => ⟨fun t ds htb he => ?_, fun f o ho he => ?_⟩, hK⟩
  rotate_left 7
  · obtain ⟨d0, k1⟩ := hboxes t ds htb
    exact hXb t d0 k1 (by have he : e.B t = b := he; rw [he]; exact hb)
  · have he : (E2 f).ownBlock = some b := he
    rcases hget f o ho with ⟨k1, k2⟩ | ⟨k1, k2⟩
    · rw [hE2 f k1] at he
      obtain ⟨I, cells, _, _, _, _, q5⟩ := (hfam f o k2).1.row
      exact hnz (q5 _ he).1
    · rw [hE3 f k1] at he
      exact hXf f o b (hold f o k2).1 he hb
  · show (keysOf (fsetP (kFrsP (lkFams ks) st.fr) root (.box cs3))).Nodup
    refine nodup_fsetP ?_
    rw [keys_kFrsP]; exact h.nodup
  · intro t
    show SlotAt Z e2 w' t _ (fget (fsetP (kFrsP (lkFams ks) st.fr) root (.box cs3)) t)
    rw [hgt]
    by_cases htr2 : t = root
    · subst htr2
      rw [if_pos rfl]
      exact ⟨hs.1.isMa (by rw [isMa_of hm, isMa_of hm3]), hs.2.zone, ⟨_, hheap, rfl, hlv2⟩, hfree⟩
    · rw [if_neg htr2]
      have hst := h.slot t
      have hnb := hnbox' t
      generalize fget st.fr t = s at hst hnb
      by_cases hsb : ∃ ds, s = .box ds
      · obtain ⟨ds, rfl⟩ := hsb
        rw [kSPs_box]
        have hz := hnb ds rfl htr2
        obtain ⟨o2, h1, h2⟩ := hst.2.obj
        refine ⟨hst.1.isMa (isMa_kLPs _ _), hst.2.zone, ⟨o2, by show w'.heap[e.B t]? = _; rw [htr.heap _ hz (lt_of_heap h1)]; exact h1, ?_⟩, fun off => by show φ' (e.B t) off = none; rw [htr.free _ off hz]; exact hst.2.free off⟩
        exact (kLPs_rep h2).on hon (kLPs_on _ (fun l _ f _ => trivial))
      · have hst' : SlotRep e (a.tmps.getD t undef) s := by cases s <;> simp only [SlotAt] at hst <;> first | exact hst | exact absurd ⟨_, rfl⟩ hsb
        have h2 := (hst'.kills (lkFams ks)).on hon (kSPs_on _ (slotOn_all s))
        have hnb2 : ∀ ds, kSPs (lkFams ks) s ≠ .box ds := fun ds hq => by
          obtain ⟨d0, h1, _⟩ := kSPs_boxInv _ hq
          exact hsb ⟨d0, h1⟩
        generalize kSPs (lkFams ks) s = s2 at h2 hnb2
        cases s2 <;> first | exact h2 | exact absurd rfl (hnb2 _)
  · intro t
    show rootOK (fsetP (kFrsP (lkFams ks) st.fr) root (.box cs3)) (fget (fsetP (kFrsP (lkFams ks) st.fr) root (.box cs3)) t)
    have hbk : ∀ q, isBox (fget st.fr q) = true → isBox (fget (fsetP (kFrsP (lkFams ks) st.fr) root (.box cs3)) q) = true := by
      intro q hq
      rw [hgt]
      by_cases hqr : q = root
      · rw [if_pos hqr]; rfl
      · rw [if_neg hqr]; exact isBox_kSPs _ hq
    rw [hgt]
    by_cases htr2 : t = root
    · rw [if_pos htr2]; trivial
    · rw [if_neg htr2]
      refine rootOK_kSPs _ ?_
      have hrt := h.root t
      generalize fget st.fr t = s at hrt
      cases s with
      | ptr q o => exact hbk q hrt
      | hp q o i => exact hbk q hrt
      | mref q => exact hbk q hrt
      | _ => trivial
  · intro f o ho
    rcases hget f o ho with ⟨h1, h2⟩ | ⟨h1, h2⟩
    · have hfm := (hfam f o h2).1
      have hpf : f ∉ Z.pfam := by rw [← h.defers.2.2.1]; exact hmeet f h1
      refine FamOK.to ?_ hpf
      obtain ⟨I, cells, q1, q2, q3, q4, q5⟩ := hfm.row
      refine ⟨I, cells, q1, q2, ?_, ?_, fun b hb => ?_⟩
      · show w'.ownsRow 0 o.ty I.size (E2 f) o.xs.length cells
        rw [hE2 f h1]; exact q3
      · show ElemsRep e.key φ' I.size cells o.xs
        rw [h.key]; exact q4
      · have hb : (E2 f).ownBlock = some b := hb
        rw [hE2 f h1] at hb
        exact ⟨hin b (q5 b hb).1, (q5 b hb).2.1, fun hc => hc.elim⟩
    · obtain ⟨ho', hnf⟩ := hold f o h2
      obtain ⟨I, cells, q1, q2, q3, q4, q5⟩ := (h.fam f o ho').row
      refine ⟨I, cells, q1, q2, ?_, q4.mono htr.ph, ?_⟩
      · show w'.ownsRow 0 o.ty I.size (E2 f) o.xs.length cells
        rw [hE3 f h1]
        refine ⟨q3.1, ?_⟩
        rcases q3.2 with h6 | ⟨g, cap, cur, k1, k2, k3, k4⟩
        · exact .inl h6
        · refine .inr ⟨g, cap, cur, k1, k2, ?_, k4⟩
          rw [htr.heap g (hnfam' f o g h2 (by rw [k1]; rfl)) (lt_of_heap k3)]; exact k3
      · intro blk hb
        have hb : (E2 f).ownBlock = some blk := hb
        rw [hE3 f h1] at hb
        refine ⟨(q5 blk hb).1, fun off u hu => (q5 blk hb).2.1 off u ?_, fun k1 k2 j hj => htr.ph.some_of ((q5 blk hb).2.2 k1 k2 j hj) hj⟩
        have hu : φ' blk off = some u := hu
        rw [htr.free _ off (hnfam' f o blk h2 hb)] at hu; exact hu
  · intro t t' c1 c2 h1 h2 hne
    obtain ⟨d1, k1⟩ := hboxes t c1 h1
    obtain ⟨d2, k2⟩ := hboxes t' c2 h2
    exact h.bb t t' d1 d2 k1 k2 hne
  · intro t c1 f o h1 h2
    show (E2 f).ownBlock ≠ some (e.B t)
    rcases hget f o h2 with ⟨k1, k2⟩ | ⟨k1, k2⟩
    · rw [hE2 f k1]
      by_cases htr2 : t = root
      · rw [htr2]; exact (hfam f o k2).2
      · obtain ⟨d1, k3⟩ := hboxes t c1 h1
        intro hq
        obtain ⟨I, cells, _, _, _, _, q5⟩ := (hfam f o k2).1.row
        exact hnbox t d1 k3 htr2 (q5 _ hq).1
    · rw [hE3 f k1]
      obtain ⟨d1, k3⟩ := hboxes t c1 h1
      exact h.bf t d1 f o k3 (hold f o k2).1
  · intro f f' o o' k h1 h2 h3 h4
    have h3 : (E2 f).ownBlock = some k := h3
    have h4 : (E2 f').ownBlock = some k := h4
    rcases hget f o h1 with ⟨k1, k2⟩ | ⟨k1, k2⟩ <;> rcases hget f' o' h2 with ⟨k3, k4⟩ | ⟨k3, k4⟩
    · rw [hE2 f k1] at h3
      rw [hE2 f' k3] at h4
      exact hff f f' o o' k k2 k4 h3 h4
    · rw [hE2 f k1] at h3
      rw [hE3 f' k3] at h4
      obtain ⟨I, cells, _, _, _, _, q5⟩ := (hfam f o k2).1.row
      exact absurd (q5 _ h3).1 (hnfam f' o' k k4 h4)
    · rw [hE3 f k1] at h3
      rw [hE2 f' k3] at h4
      obtain ⟨I, cells, _, _, _, _, q5⟩ := (hfam f' o' k4).1.row
      exact absurd (q5 _ h4).1 (hnfam f o k k2 h3)
    · rw [hE3 f k1] at h3
      rw [hE3 f' k3] at h4
      exact h.ff f f' o o' k (hold f o k2).1 (hold f' o' k4).1 h3 h4
end
end Dn
/-
  A call of slices.DeleteFunc. Conditions: none.
-/
set_option linter.unusedSimpArgs false
set_option linter.unusedVariables false
namespace Dn
open Go
section
variable {P : Program} {c : Ctx} {Z : Zone} {e e' : Env} {st st' : St} {a : Act} {w w' : World} {R : Type} {K : St → Option R} {r : R} {Q : Exit → Act → World → Prop} {o : Oper}
theorem CallOK.imp {P : Program} {f : FuncId} {args : Array Value} {w : World} {R R' : Value → World → Prop} (hc : CallOK P f args w R) (h : ∀ v w', R v w' → R' v w') : CallOK P f args w R' := by
  unfold CallOK at hc ⊢
  split
  · rename_i heq
    rw [heq] at hc
    exact Calls.mono hc (fun x w'' ⟨v, e, hr⟩ => ⟨v, e, h v w'' hr⟩)
  · rename_i heq
    rw [heq] at hc
    exact h _ _ hc
  · rename_i h1 h2
    split at hc
    · rename_i heq; exact absurd heq (h1 _ _ _)
    · rename_i heq; exact absurd heq (h2 _ _)
    · exact hc
theorem Trans.widen {I J : Nat → Prop} {φ φ' : Ph} (h : Trans I φ w φ' w') (hs : ∀ b, I b → J b) : Trans J φ w φ' w' :=
  ⟨h.ph, fun b hb => h.heap b (fun hz => hb (hs b hz)), fun b o hb => h.free b o (fun hz => hb (hs b hz)), h.size, h.rest⟩
theorem argrep_b {key : Nat → Nat} {φ : Ph} {v : Value} {b : Bool} (h : ArgRep key φ v (.b b)) : v = .bool b := by
  obtain ⟨_, h⟩ := h
  generalize hvs : [v] = l at h
  cases h; simpa using hvs
theorem pred_plain (hS : Sound P c) {f : Nat} (hg : c.gives (c.key f) = false) {lb : Array Value} {ms : List MV} : PredOK P c f lb (fun (_ : Unit) (_ : Nat → Prop) φ (_ : World) => ArgReps c.key φ lb.toList ms) (stepP c.g (c.key f) ms) := by
  refine ⟨?_, fun h _ _ => h, fun h _ => h⟩
  intro s Z φ W v x b s' hinv hnew himm harg hst
  unfold stepP at hst
  split at hst
  · rename_i b' hx
    simp only [Option.some.injEq, Prod.mk.injEq] at hst
    obtain ⟨rfl, _⟩ := hst
    have hargs : ArgsIn c (fun b => W.heap.size ≤ b) φ W (c.key f) (v :: lb.toList) (x :: ms) := by
      simp only [ArgsIn, hg, Bool.false_eq_true, if_false]
      exact ⟨v, lb.toList, rfl, harg, hinv⟩
    have := hS f (x :: ms) (.b b') hx φ W (fun b => W.heap.size ≤ b) _ (fun b hb => hb) hargs himm
    have e1 : (v :: lb.toList).toArray = #[v] ++ lb := by apply Array.toList_inj.1; simp
    rw [e1] at this
    refine this.imp ?_
    rintro v' w' ⟨φ', t1, t2, t3⟩
    exact ⟨argrep_b t3, φ', t1.widen hnew, t2, hinv.mono t1.ph⟩
  · cases hst
theorem pred_cell (hS : Sound P c) {f pos blk : Nat} {ks : List LK} {ms : List MV} {lb0 : List Value} (hg : c.gives (c.key f) = true) (hsig : c.sig (c.key f) = some (pos, ks)) (hpos : pos = ms.length + 1) :
    PredOK P c f (lb0 ++ [Value.pointer (some ⟨blk, 0, none⟩)]).toArray (fun ls Z φ W => CellIn c Z φ W blk ks ls ∧ ArgReps c.key φ lb0 ms) (stepC c.g (c.key f) ms) := by
  refine ⟨?_, ?_, fun h hz => ⟨h.1.wide hz, h.2⟩⟩
  · intro ls Z φ W v x b s' hinv hnew himm harg hst
    obtain ⟨hcell, hreps⟩ := hinv
    unfold stepC at hst
    split at hst
    · rename_i b' outs hx
      simp only [Option.some.injEq, Prod.mk.injEq] at hst
      obtain ⟨rfl, rfl⟩ := hst
      have hl := hreps.length
      have hargs : ArgsIn c Z φ W (c.key f) (v :: (lb0 ++ [Value.pointer (some ⟨blk, 0, none⟩)])) (x :: (ms ++ [.cell (.func 0 ls)])) := by
        simp only [ArgsIn, hg, if_true]
        refine .inr (.inr ⟨pos, ks, 0, ls, blk, hsig, ?_, ?_, ?_, hcell⟩)
        · rw [hpos, List.getElem?_cons_succ, ← hl, List.getElem?_append_right (Nat.le_refl _)]; simp
        · rw [hpos, List.getElem?_cons_succ, List.getElem?_append_right (Nat.le_refl _)]; simp
        · rw [hpos, List.set_cons_succ, List.set_append_right _ _ (Nat.le_refl _), Nat.sub_self]
          exact ⟨v, _, rfl, harg, hreps.append ⟨_, [], rfl, ⟨rfl, .rp blk 0 [] [] .nil (by simp)⟩, rfl⟩⟩
      have := hS f _ _ hx φ W Z _ hnew hargs himm
      have e1 : (v :: (lb0 ++ [Value.pointer (some ⟨blk, 0, none⟩)])).toArray = #[v] ++ (lb0 ++ [Value.pointer (some ⟨blk, 0, none⟩)]).toArray := by apply Array.toList_inj.1; simp
      rw [e1] at this
      refine this.imp ?_
      rintro v' w' ⟨φ', t1, t2, hres, pos', ks', blk', off', hs', hv', hc⟩
      rw [hsig] at hs'
      simp only [Option.some.injEq, Prod.mk.injEq] at hs'
      obtain ⟨rfl, rfl⟩ := hs'
      have hb : blk' = blk := by
        rw [hpos, List.getElem?_cons_succ, ← hl, List.getElem?_append_right (Nat.le_refl _)] at hv'
        simp at hv'
        exact hv'.1.symm
      subst hb
      exact ⟨argrep_b hres, φ', t1, t2, hc, hreps.mono t1.ph⟩
    · cases hst
  · intro ls Z φ W W' hinv hsz hsame
    obtain ⟨⟨cs, m, E, arr, T, k1, k2, k3, k4, k5, k6, k7⟩, hreps⟩ := hinv
    have hlt := lt_of_heap k2
    refine ⟨⟨cs, m, E, arr, T, k1, (hsame blk k3 hlt).trans k2, ⟨k3, hlt⟩, k4, k5, fun f' o' ho => ⟨?_, (k6 f' o' ho).2⟩, k7⟩, hreps⟩
    obtain ⟨I, cells, q1, q2, q3, q4, q5⟩ := (k6 f' o' ho).1.row
    refine ⟨I, cells, q1, q2, ⟨q3.1, ?_⟩, q4, fun b hb => ⟨⟨(q5 b hb).1, row_lt q3 hb⟩, (q5 b hb).2⟩⟩
    rcases q3.2 with h6 | ⟨g, cap, cur, r1, r2, r3, r4⟩
    · exact .inl h6
    · exact .inr ⟨g, cap, cur, r1, r2, (hsame g (q5 g (by rw [r1]; rfl)).1 (lt_of_heap r3)).trans r3, r4⟩
theorem aggs_of {xs : List MV} (h : xs.all aggB = true) : ∀ x ∈ xs, ∃ ms, x = .agg ms := by
  intro x hx
  have := List.all_eq_true.1 h x hx
  cases x <;> simp [aggB] at this
  exact ⟨_, rfl⟩
theorem put_comm {a : Act} {x y : Nat} (h : x ≠ y) (v u : Value) : (a.put (some x) v).put (some y) u = (a.put (some y) u).put (some x) v := by
  show ({ a with tmps := (a.tmps.setIfInBounds x v).setIfInBounds y u } : Act) = { a with tmps := (a.tmps.setIfInBounds y u).setIfInBounds x v }
  rw [Array.setIfInBounds_comm v u h]
/-- behind the call: the row, and the two slots -/
theorem del_fin {y d : Nat} {o1 o2 : Oper} {h : Nat} {v0 v' fv : Value} {ys : List MV} {φ0 : Ph} {w0 : World} (hs : Sim c Z e st a w) (h1 : o1.dst = some y) (h2 : o2.dst = some d) (hyd : d ≠ y) (hin : ∀ b, v0.ownBlock = some b → Z.In b)
    (hfam : FamOK c (Zone.plain fun b => v0.ownBlock = some b) (env0 c.key e.φ) w v' ⟨c.fty (c.key h), false, ys⟩) (hown : ∀ b, v'.ownBlock = some b → v0.ownBlock = some b) (hap : ∀ b, v0.ownBlock = some b → (∀ t cs', fget st.fr t = .box cs' → e.B t ≠ b) ∧ ∀ f o, oget st.fams f = some o → (e.E f).ownBlock ≠ some b)
    (ht : Trans Z φ0 w0 e.φ w)
    (hK : (putFam st (o2.dst.getD 0) ⟨c.fty (c.key h), false, ys⟩ fun st => setDst c st o2.dst (.sc (.own (o2.dst.getD 0))) fun st => setDst c st o1.dst (.sc .un) K) = some r) : Out c Z K r φ0 w0 ((a.put o1.dst fv).put o2.dst v') w := by
  have hpf := hs.npf hK
  have hK1 := putFam_eq hK
  have hf2 : FamOK c Z.nc e w v' ⟨c.fty (c.key h), false, ys⟩ := by
    obtain ⟨I, cells, g1, g2, g3, g4, g5⟩ := hfam.row
    refine ⟨I, cells, g1, g2, g3, by rw [hs.key]; exact g4, fun blk hb => ⟨hin blk (hown blk hb), (g5 blk hb).2.1, fun hc => hc.elim⟩⟩
  have hs2 := hs.newFam hpf hf2 fun b hb => hap b (hown b hb)
  obtain ⟨I, cells, g1, g2, g3, g4, g5⟩ := hfam.row
  have hone : v'.oneCell' = true := by
    rcases g3.2 with ⟨rfl, _⟩ | ⟨g, cap, cur, rfl, _⟩ <;> rfl
  obtain ⟨e3, st3, q1, q2, q3⟩ := setDst_sim (v := v') (s := .sc (.own (o2.dst.getD 0))) hs2 (.of (own_setF hone) trivial) hK1
  obtain ⟨e4, st4, q4, q5, q6⟩ := setDst_sim (v := fv) (s := .sc .un) q1 (.of (by simp [SlotRep]) trivial) q2
  rw [h1, h2] at q4
  rw [put_comm hyd] at q4
  rw [h1, h2]
  exact ⟨e4, st4, q4, by rw [q6, q3]; exact ht, q5⟩
theorem delp_ok (hS : Sound P c) {h f x y d : Nat} {caps : Array Operand} {cl : Call} {o1 o2 : Oper} (hd : DelSem P c h (c.fty (c.key h))) (h1 : o1.op = .makeFunc (.func f) #[] caps) (h2 : o2.op = .call cl) (hcl : cl.callee = .value (.func h)) (hargs : cl.args.toList = [.tmp x, .tmp y])
    (hd1 : o1.dst = some y) (hd2 : o2.dst = some d) (hxy : x ≠ y) (hyd : d ≠ y) (hyn : y < c.n) (hsim : Sim c Z e st a w) (hK : delpK c h f caps.toList (.tmp x) o1 o2 st K = some r) :
    o1.wp P a w (fun a1 w1 => o2.wp P a1 w1 (Out c Z K r e.φ w) Q) Q := by
  have hrun1 : (execOp a.eval o1).run P w = .ok (.value (.func (.func f) #[] (caps.map a.eval))) w := by simp [execOp, h1, Instr.makeFunc]
  unfold Oper.wp
  rw [hrun1, Oper.upon_value]
  have hev : ∀ v : Value, (a.put o1.dst v).eval (.tmp x) = a.eval (.tmp x) ∧ (a.put o1.dst v).eval (.tmp y) = v := by
    intro v
    rw [hd1]
    have hy : y < a.tmps.size := by rw [hsim.size]; exact hyn
    constructor
    · show (a.put (some y) v).tmps.getD x undef = a.tmps.getD x undef
      rw [Act.put_getD hy, if_neg hxy]
    · show (a.put (some y) v).tmps.getD y undef = v
      rw [Act.put_getD hy, if_pos rfl]
  have hcargs : ∀ v : Value, cl.args.map (a.put o1.dst v).eval = #[a.eval (.tmp x), v] := by
    intro v
    apply Array.toList_inj.1
    rw [Array.toList_map, hargs]
    simp [(hev v).1, (hev v).2]
  have hrun2 : ∀ v : Value, (execOp (a.put o1.dst v).eval o2).run P w = (callFunc h #[a.eval (.tmp x), v]).run P w := by
    intro v
    have := hcargs v
    simp [execOp, h2, resolve, hcl, this, Act.eval, Deferred.ofValue, invoke]
  unfold delpK at hK
  cases hsig : c.sig (c.key f) with
  | none =>
    simp only [hsig] at hK
    cases hg : c.gives (c.key f) with
    | true => simp [hg] at hK
    | false =>
    simp only [hg, cond_false] at hK
    obtain ⟨e1, st1, ms, s1, x1, r1, hK1, hone⟩ := capsK_spec hsim hK
    obtain ⟨e2, st2, xs, G, hK2⟩ := giveK_spec s1 (s1.eval (.tmp x)).1 hK1
    simp only [gF] at hK2
    obtain ⟨hagg, hK3⟩ := chk_some hK2
    obtain ⟨p, hp, hK4⟩ := bd_some hK3
    obtain ⟨ys, u⟩ := p
    have hreps : ArgReps c.key e1.φ (caps.map a.eval).toList ms := by
      have := RepL.one r1 hone
      rw [s1.key] at this
      simpa using this
    have hdis : ∀ b, (a.eval (.tmp x)).ownBlock = some b → ¬ w.heap.size ≤ b := by
      intro b hb
      obtain ⟨I, cells, _, _, g3, _⟩ := G.row.row
      have := row_lt g3 hb
      omega
    have hcall := hd.run (pred_plain hS hg) (aggs_of hagg) G.row hdis hreps (fun b hb => hb) s1.imm hp
    refine call_out (hrun2 _) hcall ?_
    rintro v' w' ⟨Zw, φ', hW, hfam, hown⟩
    have hzin : ∀ b, ((w.heap.size ≤ b ∨ w.heap.size ≤ b) ∨ (a.eval (.tmp x)).ownBlock = some b) → Z.In b := by
      rintro b ((hb | hb) | hb)
      · exact s1.zone b hb
      · exact s1.zone b hb
      · exact G.In b hb
    have hzb : ∀ t cs, fget st2.fr t = .box cs → ¬ ((w.heap.size ≤ e2.B t ∨ w.heap.size ≤ e2.B t) ∨ (a.eval (.tmp x)).ownBlock = some (e2.B t)) := by
      rintro t cs ht ((hb | hb) | hb)
      · have := box_lt G.sim ht; omega
      · have := box_lt G.sim ht; omega
      · exact G.box t cs ht hb
    have hzf : ∀ f o k, oget st2.fams f = some o → (e2.E f).ownBlock = some k → ¬ ((w.heap.size ≤ k ∨ w.heap.size ≤ k) ∨ (a.eval (.tmp x)).ownBlock = some k) := by
      rintro f o k ho hk ((hb | hb) | hb)
      · have := fam_lt G.sim ho hk; omega
      · have := fam_lt G.sim ho hk; omega
      · exact G.fam f o k ho hk hb
    have htr := hW.tr
    rw [← G.φ] at htr
    have hs3 := G.sim.called hzin hzb hzf htr hW.imm
    have htr2 : Trans Z e.φ w φ' w' := x1.tr.trans (hW.tr.widen hzin)
    exact del_fin (e := { e2 with φ := φ' }) hs3 hd1 hd2 hyd G.In hfam hown (fun b hb => ⟨fun t cs' ht he => G.box t cs' ht (by rw [hb, ← he]), fun f o ho hk => G.fam f o b ho hk hb⟩) htr2 hK4
  | some sg =>
    obtain ⟨pos, ks⟩ := sg
    simp only [hsig] at hK
    obtain ⟨e1, st1, ms, s1, x1, r1, hK1, hone⟩ := capsK_spec hsim hK
    obtain ⟨e2, st2, xs, G, hK2⟩ := giveK_spec s1 (s1.eval (.tmp x)).1 hK1
    simp only [gF] at hK2
    obtain ⟨hagg, hK3⟩ := chk_some hK2
    cases hlast : caps.toList.getLast? with
    | none => simp [hlast] at hK3
    | some y0 =>
    simp only [hlast] at hK3
    split at hK3
    rotate_left
    · cases hK3
    rename_i root hev0
    split at hK3
    rotate_left
    · cases hK3
    rename_i cs hf
    cases hcond : isMp cs || nmem st2.prot root || !tysOK c ks || !Nat.beq pos (ms.length + 1) || !c.gives (c.key f) with
    | true => simp [hcond] at hK3
    | false =>
    simp only [hcond, cond_false] at hK3
    simp only [Bool.or_eq_false_iff, Bool.not_eq_false'] at hcond
    obtain ⟨⟨⟨⟨hm, hr⟩, hty⟩, hpos⟩, hg⟩ := hcond
    have hpos := Nat.eq_of_beq_eq_true hpos
    obtain ⟨ls, ps, ht, hK4⟩ := takeLKs_TC hK3
    obtain ⟨p, hp, hK5⟩ := bd_some hK4
    obtain ⟨ys, outs⟩ := p
    have hy0 : a.eval y0 = .pointer (some ⟨e2.B root, 0, none⟩) := by
      have := (G.sim.eval y0).1
      rw [hev0] at this
      exact this
    have hcaps : (caps.map a.eval) = ((caps.toList.dropLast.map a.eval) ++ [Value.pointer (some ⟨e2.B root, 0, none⟩)]).toArray := by
      apply Array.toList_inj.1
      rw [Array.toList_map]
      have hne : caps.toList ≠ [] := by intro e; rw [e] at hlast; simp at hlast
      have h3 : caps.toList = caps.toList.dropLast ++ [y0] := by
        have h4 := List.dropLast_concat_getLast hne
        have h5 := List.getLast?_eq_some_getLast hne
        rw [hlast] at h5
        rw [Option.some.inj h5]
        exact h4.symm
      rw [h3]
      simp [hy0]
    have hreps : ArgReps c.key e2.φ (caps.toList.dropLast.map a.eval) ms := by
      have := RepL.one r1 hone
      rw [s1.key, ← G.φ] at this
      exact this
    have hrow : FamOK c (Zone.plain fun b => (a.eval (.tmp x)).ownBlock = some b) (env0 c.key e2.φ) w (a.eval (.tmp x)) ⟨c.fty (c.key h), false, xs⟩ := by rw [G.φ]; exact G.row
    let Z2 : Nat → Prop := fun b => w.heap.size ≤ b ∨ gone e2 root ps b
    have hgx : ∀ b, (a.eval (.tmp x)).ownBlock = some b → ¬ gone e2 root ps b := by
      rintro b hb (rfl | ⟨q, g, hp, hq⟩)
      · exact G.box root cs hf hb
      · obtain ⟨o, ho, _⟩ := ht.fams q g hp
        exact G.fam g o b ho hq hb
    have hlt : ∀ b, (a.eval (.tmp x)).ownBlock = some b → b < w.heap.size := by
      intro b hb
      obtain ⟨I, cells, _, _, g3, _⟩ := G.row.row
      exact row_lt g3 hb
    have hdis : ∀ b, (a.eval (.tmp x)).ownBlock = some b → ¬ Z2 b := by
      rintro b hb (h' | h')
      · have := hlt b hb; omega
      · exact hgx b hb h'
    have hcell : CellIn c Z2 e2.φ w (e2.B root) ks ls := (cell_out G.sim hf hm hty ht).wide fun b hb => .inr hb
    have hcall := hd.run (pred_cell hS hg hsig hpos) (aggs_of hagg) hrow hdis ⟨hcell, hreps⟩ (fun b hb => .inl hb) G.sim.imm hp
    rw [← hcaps] at hcall
    refine call_out (hrun2 _) hcall ?_
    rintro v' w' ⟨Zw, φ', hW, hfam, hown⟩
    have hZ2 : ∀ b, Z2 b ∨ w.heap.size ≤ b → Z2 b := fun b hb => hb.elim id .inl
    have hzin : ∀ b, Z2 b → Z.In b := fun b hb => hb.elim (G.sim.zone b) (gone_in G.sim hf hr ht b)
    have htr : Trans (fun b => Z2 b ∨ (a.eval (.tmp x)).ownBlock = some b) e2.φ w φ' w' := hW.tr.widen fun b hb => hb.elim (fun h => .inl (hZ2 b h)) .inr
    have hcell' : CellIn c Z2 φ' w' (e2.B root) ks outs := hW.inv.1.wide fun b hb => hZ2 b (hW.sub b hb)
    obtain ⟨e3, st3, h3, hφ3, hX, hK6⟩ := back_simX G.sim hf hm hr ht (fun b => Iff.rfl) (X := fun b => (a.eval (.tmp x)).ownBlock = some b) (fun t cs' ht' hb => G.box t cs' ht' hb) (fun f o b ho hk hb => G.fam f o b ho hk hb) htr hW.imm hcell' hK5
    have htr2 : Trans Z e.φ w φ' w' := by
      have t2 : Trans Z e2.φ w φ' w' := htr.widen fun b hb => hb.elim (hzin b) (G.In b)
      rw [G.φ] at t2
      exact x1.tr.trans t2
    subst hφ3
    exact del_fin h3 hd1 hd2 hyd G.In hfam hown (fun b hb => hX b hb (hdis b hb)) htr2 hK6
end
end Dn
/-
  Regions in the order of their text. Conditions: none.
-/
set_option linter.unusedSimpArgs false
set_option linter.unusedVariables false
namespace Dn
open Go
section
variable {P : Program} {c : Ctx} {Z : Zone} {e : Env} {st : St} {a : Act} {w : World} {R : Type} {K : St → Option R} {r : R} {Q : Exit → Act → World → Prop} {ops : Array Oper}
theorem ops_then (hG : Good P c) {is : List Nat} {rest : List Nat} : ∀ {os : List Oper} {e : Env} {st : St} {a : Act} {w : World}, is.map (ops[·]?) = os.map some → Sim c Z e st a w → opsK c ops.toList os st K = some r →
    ∀ {φ0 : Ph} {w0 : World}, Trans Z φ0 w0 e.φ w → (∀ a' w', Out c Z K r φ0 w0 a' w' → wpOps P ops Q rest a' w') → wpOps P ops Q (is ++ rest) a w := by
  induction is with
  | nil =>
    intro os e st a w hm h hK φ0 w0 ht hQ
    cases os with
    | nil => exact hQ a w ⟨e, st, h, ht, hK⟩
    | cons => simp at hm
  | cons i is ih =>
    intro os e st a w hm h hK φ0 w0 ht hQ
    cases os with
    | nil => simp at hm
    | cons o os =>
      simp only [List.map_cons, List.cons.injEq] at hm
      simp only [opsK] at hK
      rw [List.cons_append, wpOps_cons]
      refine wpOp_mono ?_ (step_ok hG hm.1 h hK)
      rintro a' w' ⟨e2, st2, h1, h2, h3⟩
      exact ih hm.2 h1 h3 (ht.trans h2) hQ
structure DelAt (c : Ctx) (l pre : List Oper) (f : Nat) (caps : List Operand) (h : Nat) (x : Operand) (o1 o2 : Oper) (post : List Oper) : Prop where
  eq : l = pre ++ o1 :: o2 :: post
  is : ∃ (cs : Array Operand) (cl : Call) (x' y d : Nat), cs.toList = caps ∧ o1.op = .makeFunc (.func f) #[] cs ∧ o2.op = .call cl ∧ cl.callee = .value (.func h) ∧ cl.args.toList = [.tmp x', .tmp y] ∧ x = .tmp x' ∧ o1.dst = some y ∧ o2.dst = some d ∧ c.dels h = true ∧ x' ≠ y ∧ d ≠ y ∧ y < c.n
theorem delAt_spec : ∀ {l pre pre' : List Oper} {f : Nat} {caps : List Operand} {h : Nat} {x : Operand} {o1 o2 : Oper} {post : List Oper}, delAt c pre l = some (pre', f, caps, h, x, o1, o2, post) → DelAt c (pre.reverse ++ l) pre' f caps h x o1 o2 post := by
  intro l
  induction l with
  | nil => intro pre pre' f caps h x o1 o2 post hd; simp [delAt] at hd
  | cons p1 l ih =>
    intro pre pre' f caps h x o1 o2 post hd
    cases l with
    | nil => simp [delAt] at hd
    | cons p2 r =>
      have rec_ : delAt c (p1 :: pre) (p2 :: r) = some (pre', f, caps, h, x, o1, o2, post) → DelAt c (pre.reverse ++ p1 :: p2 :: r) pre' f caps h x o1 o2 post := by
        intro hq
        have := ih hq
        simpa using this
      unfold delAt at hd
      split at hd
      · rename_i f' first cs cl h1 h2
        split at hd
        · rename_i h' x' y' d' k1 k2 k3 k4
          cases hb : c.dels h' && Nat.beq y' d' && !Nat.beq x' d' && !Nat.ble c.n d' && !Nat.beq (p2.dst.getD d') d' with
          | false => simp only [hb, cond_false] at hd; exact rec_ hd
          | true =>
            simp only [hb, cond_true, Option.some.injEq, Prod.mk.injEq] at hd
            obtain ⟨rfl, rfl, rfl, rfl, rfl, rfl, rfl, rfl⟩ := hd
            simp only [Bool.and_eq_true, Bool.not_eq_true', nbeq, decide_eq_true_eq, decide_eq_false_iff_not] at hb
            obtain ⟨⟨⟨⟨q1, rfl⟩, q3⟩, q4⟩, q5⟩ := hb
            have hf : first = #[] := by apply Array.toList_inj.1; simpa using k3
            subst hf
            have hd2 : ∃ d, p2.dst = some d ∧ d ≠ y' := by
              cases hp : p2.dst with
              | none => rw [hp] at q5; simp at q5
              | some d => rw [hp] at q5; exact ⟨d, rfl, q5⟩
            obtain ⟨d, hd2, hd3⟩ := hd2
            refine ⟨rfl, cs, cl, x', y', d, rfl, h1, h2, k1, k2, rfl, k4, hd2, q1, q3, hd3, ?_⟩
            rcases Nat.lt_or_ge y' c.n with hlt | hge
            · exact hlt
            · have hble := Nat.ble_eq_true_of_le hge
              simp_all
        · exact rec_ hd
      · exact rec_ hd
theorem plainB_spec : ∀ {l : List Oper}, plainB l = true → ∀ o ∈ l, o.guard = none := by
  intro l
  induction l with
  | nil => intro _ o ho; cases ho
  | cons p l ih =>
    intro h o ho
    unfold plainB at h
    cases hg : p.guard with
    | none =>
      rw [hg] at h
      rcases List.mem_cons.1 ho with rfl | ho
      · exact hg
      · exact ih h o ho
    | some => rw [hg] at h; cases h
theorem text_runs (hG : Good P c) (hdel : DelsOK P c) (id : Nat) (ops : Array Oper) : RunsText P c id ops := by
  intro Z e st a w R K r Q h hK hQ
  unfold textK at hK
  split at hK
  rotate_left
  · exact region_ok (runs_text hG id ops) h hK hQ
  rename_i pre f caps hh x o1 o2 post hda
  obtain ⟨heq, cs, cl, x', y, d, rfl, k1, k2, k3, k4, rfl, k5, k6, k7, k8, k9, k10⟩ := delAt_spec hda
  simp only [List.reverse_nil, List.nil_append] at heq
  cases hpl : plainB ops.toList with
  | false => simp [hpl] at hK
  | true =>
  simp only [hpl, cond_true] at hK
  obtain ⟨std, hdr, hK⟩ := dropSt_spec h hK
  have hgd := plainB_spec hpl
  have hg1 : o1.guard = none := hgd o1 (by rw [heq]; simp)
  have hg2 : o2.guard = none := hgd o2 (by rw [heq]; simp)
  refine wp_region ?_
  have hsz : ops.size = pre.length + (post.length + 2) := by rw [← Array.length_toList, heq]; simp
  have hget : ∀ i, ops[i]? = (pre ++ o1 :: o2 :: post)[i]? := fun i => by rw [← heq, Array.getElem?_toList]
  have hrange : List.range ops.size = List.range pre.length ++ (pre.length :: (pre.length + 1) :: ((List.range post.length).map (· + (pre.length + 2)))) := by
    rw [hsz, List.range_add]
    congr 1
    rw [show post.length + 2 = 2 + post.length by omega, List.range_add]
    simp [List.range_succ]
    intros; omega
  rw [hrange]
  refine ops_then hG (os := pre) ?_ hdr hK (.refl _ _ _) ?_
  · apply List.ext_getElem?
    intro i
    simp only [List.getElem?_map]
    by_cases hi : i < pre.length
    · rw [List.getElem?_range hi]
      simp only [Option.map_some, hget, List.getElem?_append_left hi]
      rw [List.getElem?_eq_getElem hi]; rfl
    · rw [List.getElem?_eq_none (by simp; omega), List.getElem?_eq_none (by omega)]; rfl
  · rintro a1 w1 ⟨e1, st1, s1, t1, hK1⟩
    have hw := delp_ok hG.fn (hdel hh k7) k1 k2 k3 k4 k5 k6 k8 k9 k10 s1 hK1 (P := P) (Q := Q)
    have hi1 : ops[pre.length]? = some o1 := by rw [hget]; simp
    have hi2 : ops[pre.length + 1]? = some o2 := by rw [hget, List.getElem?_append_right (by omega)]; simp
    rw [wpOps_cons]
    unfold wpOp
    simp only [hi1, Region.wanted, hg1, if_true]
    left
    refine Oper.wp_mono ?_ hw
    intro a2 w2 hw2
    rw [wpOps_cons]
    unfold wpOp
    simp only [hi2, Region.wanted, hg2, if_true]
    left
    refine Oper.wp_mono ?_ hw2
    rintro a3 w3 ⟨e3, st3, s3, t3, hK3⟩
    rw [← List.append_nil ((List.range post.length).map (· + (pre.length + 2)))]
    refine ops_then hG (os := post) ?_ s3 hK3 (t1.trans t3) ?_
    · apply List.ext_getElem?
      intro i
      simp only [List.getElem?_map, List.map_map]
      by_cases hi : i < post.length
      · rw [List.getElem?_range hi]
        simp only [Option.map_some, Function.comp, hget]
        rw [List.getElem?_append_right (by omega), show i + (pre.length + 2) - pre.length = i + 2 by omega]
        simp [List.getElem?_eq_getElem hi]
      · rw [List.getElem?_eq_none (by simp; omega), List.getElem?_eq_none (by omega)]; rfl
    · intro a' w' ho
      exact hQ a' w' ho
end
end Dn
/-
  Open order with two operations that may be done either way round. Conditions: none.
-/
set_option linter.unusedSimpArgs false
set_option linter.unusedVariables false
namespace Dn
open Go

section
variable {P : Program} {ops : Array Oper} {Q : Exit → Act → World → Prop}

theorem addE_size (A B : Nat) : (addE ops A B).size = ops.size := by simp [addE]
theorem addE_get (A B i : Nat) : (addE ops A B)[i]? = (ops[i]?).map fun o => if B = i then { o with after := o.after.push ⟨A, .data⟩ } else o := by
  unfold addE
  rw [Array.getElem?_modify]
  by_cases h : B = i
  · simp [h]
  · cases ops[i]? <;> simp [h]
theorem addE_yielded (A B : Nat) (tmps : Array Value) : yielded (addE ops A B) tmps = yielded ops tmps := by
  funext j
  unfold yielded
  rw [addE_get]
  cases ops[j]? with
  | none => rfl
  | some o =>
    have e : (if B = j then { o with after := o.after.push ⟨A, .data⟩ } else o).dst = o.dst := by split <;> rfl
    simp only [Option.map_some, Option.bind_some, e]
theorem addE_wpOp {A B i : Nat} {K : Act → World → Prop} {a : Act} {w : World} (h : wpOp P (addE ops A B) Q i K a w) : wpOp P ops Q i K a w := by
  unfold wpOp at h ⊢
  rw [addE_get, addE_yielded] at h
  cases hi : ops[i]? with
  | none => rw [hi] at h; exact h
  | some o =>
    rw [hi] at h
    simp only [Option.map_some] at h
    by_cases hb : B = i
    · rw [if_pos hb] at h; exact h
    · rw [if_neg hb] at h; exact h
theorem addE_ready {A B i : Nat} {listed : Array Bool} : i ∈ Region.ready .any (addE ops A B) listed ↔ i ∈ Region.ready .any ops listed ∧ (i = B → listed.getD A false = true) := by
  unfold Region.ready
  rw [addE_size]
  simp only [List.mem_filter, List.mem_range, addE_get]
  cases hi : ops[i]? with
  | none => simp
  | some o =>
    by_cases hb : B = i
    · subst hb
      simp [Array.all_push, Region.binds]
      constructor
      · rintro ⟨h1, h2, h3, h4⟩; exact ⟨⟨h1, h2, h3⟩, h4⟩
      · rintro ⟨⟨h1, h2, h3⟩, h4⟩; exact ⟨h1, h2, h3, h4⟩
    · have hb' : ¬ i = B := fun e => hb e.symm
      simp [hb, hb']
/-- is A ahead of B -/
def Ahd (A B : Nat) : Bool → List Nat → Prop
  | _, [] => True
  | la, i :: r => (i = B → la = true) ∧ Ahd A B (la || decide (i = A)) r
theorem ahd_true (A B : Nat) : ∀ L, Ahd A B true L
  | [] => trivial
  | i :: r => ⟨fun _ => rfl, by simpa using ahd_true A B r⟩
theorem ahd_or {A B : Nat} (h : A ≠ B) : ∀ L, Ahd A B false L ∨ Ahd B A false L
  | [] => .inl trivial
  | i :: r => by
    by_cases ha : i = A
    · subst ha
      exact .inl ⟨fun e => absurd e h, by simpa using ahd_true i B r⟩
    · by_cases hb : i = B
      · subst hb
        exact .inr ⟨fun e => absurd e ha, by simpa using ahd_true i A r⟩
      · rcases ahd_or h r with h1 | h1
        · exact .inl ⟨fun e => absurd e hb, by simpa [ha] using h1⟩
        · exact .inr ⟨fun e => absurd e ha, by simpa [hb] using h1⟩
/-- edges more -/
def addEs (ops : Array Oper) : List (Nat × Nat) → Array Oper
  | [] => ops
  | p :: E => addE (addEs ops E) p.1 p.2
theorem addEs_size : ∀ E, (addEs ops E).size = ops.size
  | [] => rfl
  | p :: E => by rw [addEs, addE_size, addEs_size E]
theorem addEs_wpOp {i : Nat} {K : Act → World → Prop} {a : Act} {w : World} : ∀ E, wpOp P (addEs ops E) Q i K a w → wpOp P ops Q i K a w
  | [], h => h
  | _ :: E, h => addEs_wpOp E (addE_wpOp h)
theorem addEs_ready {i : Nat} {listed : Array Bool} : ∀ E, i ∈ Region.ready .any (addEs ops E) listed ↔ i ∈ Region.ready .any ops listed ∧ ∀ p ∈ E, i = p.2 → listed.getD p.1 false = true
  | [] => by simp [addEs]
  | p :: E => by
    rw [addEs, addE_ready, addEs_ready E, List.forall_mem_cons]
    exact ⟨fun h => ⟨h.1.1, h.2, h.1.2⟩, fun h => ⟨⟨h.1, h.2.2⟩, h.2.1⟩⟩
theorem tree_sound {E : List (Nat × Nat)} : ∀ (fuel t : Nat) (listed : Array Bool) (a : Act) (w : World), (∀ p ∈ E, p.1 < listed.size) → wpAny P .any (addEs ops E) Q fuel listed a w →
    (∀ p ∈ E, Ahd p.1 p.2 (listed.getD p.1 false) (Region.linearise.go .any ops fuel t listed [])) → wpOps P ops Q (Region.linearise.go .any ops fuel t listed []) a w := by
  intro fuel
  induction fuel with
  | zero => intro t listed a w _ h _; simpa [Region.linearise.go, wpOps] using h.2
  | succ fuel ih =>
    intro t listed a w hs h hA
    obtain ⟨h₀, h₁⟩ := h
    simp only [Region.linearise.go] at hA ⊢
    change wpOps P ops Q (match (Region.ready .any ops listed)[t % (Region.ready .any ops listed).length]? with
      | some i => Region.linearise.go .any ops fuel (t / (Region.ready .any ops listed).length) (listed.setIfInBounds i true) [i]
      | none => [].reverse) a w
    change ∀ p ∈ E, Ahd p.1 p.2 (listed.getD p.1 false) (match (Region.ready .any ops listed)[t % (Region.ready .any ops listed).length]? with
      | some i => Region.linearise.go .any ops fuel (t / (Region.ready .any ops listed).length) (listed.setIfInBounds i true) [i]
      | none => [].reverse) at hA
    cases hi : (Region.ready .any ops listed)[t % (Region.ready .any ops listed).length]? with
    | none =>
      have hnil : Region.ready .any ops listed = [] := by
        cases hr : Region.ready .any ops listed with
        | nil => rfl
        | cons x xs =>
          rw [hr] at hi
          have hlt : t % (x :: xs).length < (x :: xs).length := Nat.mod_lt _ (by simp)
          simp at hi
          simp at hlt
          omega
      have hnil2 : Region.ready .any (addEs ops E) listed = [] := by
        cases hr : Region.ready .any (addEs ops E) listed with
        | nil => rfl
        | cons x xs =>
          have : x ∈ Region.ready .any (addEs ops E) listed := by rw [hr]; simp
          have := ((addEs_ready E).1 this).1
          rw [hnil] at this; cases this
      simpa [wpOps] using h₀ hnil2
    | some i =>
      rw [hi] at hA
      simp only [] at hA ⊢
      rw [linearise_go_acc, List.reverse_singleton, List.singleton_append] at hA ⊢
      rw [wpOps_cons]
      have hmem := (addEs_ready E).2 ⟨List.mem_of_getElem? hi, fun p hp => (hA p hp).1⟩
      refine wpOp_mono (fun a w hw => ih _ _ a w (fun p hp => by simpa using hs p hp) hw fun p hp => ?_) (addEs_wpOp E (h₁ i hmem))
      have hg : (listed.setIfInBounds i true).getD p.1 false = (listed.getD p.1 false || decide (i = p.1)) := by
        rw [Array.getD_eq_getD_getElem?, Array.getD_eq_getD_getElem?, Array.getElem?_setIfInBounds]
        by_cases hia : i = p.1
        · subst hia; simp [hs p hp]
        · simp [hia]
      rw [hg]; exact (hA p hp).2
theorem draws_ok {c : Ctx} (hG : Good P c) (hmix : P.follows .mixedOrders = true) (hdel : DelsOK P c) : Draws P c := by
  refine ⟨fun id ops => text_runs hG hdel id ops, ?_, ?_⟩
  · intro id ops l hd hp Z e st a w R K r Q h hK hQ
    refine Code.wp_mono ?_ (wp_region_any hmix (draw_any hG hd hp h hK))
    intro x a' w' hx
    cases x <;> first | exact hQ a' w' hx | exact hx.elim
  · intro id ops k l Z e st a w R K r Q h hK hQ
    refine Code.wp_mono (Q := Only fun a' w' => Out c Z K r e.φ w a' w') ?_ (wp_region_draw fun t => ?_)
    · intro x a' w' hx
      cases x <;> first | exact hQ a' w' hx | exact hx.elim
    simp only [Region.schedule, hmix, Bool.true_or, if_true]
    have leaf : ∀ (E : List (Nat × Nat)) (l : List Nat), (∀ p ∈ E, p.1 < ops.size) → leafK c (addEs ops E) l st K = some r → (∀ p ∈ E, Ahd p.1 p.2 false (Region.linearise.go .any ops ops.size t (Array.replicate ops.size false) [])) →
        wpOps P ops (Only fun a' w' => Out c Z K r e.φ w a' w') (Region.linearise.go .any ops ops.size t (Array.replicate ops.size false) []) a { w with drawn := w.drawn + 1 } := by
      intro E l hE hK hA
      unfold leafK at hK
      cases hd : drawOK c (addEs ops E) l with
      | false => simp [hd] at hK
      | true =>
        simp only [hd, cond_true] at hK
        split at hK
        · rename_i l1 hp
          have w1 := draw_any hG hd hp h hK
          rw [addEs_size] at w1
          exact tree_sound ops.size t _ a _ (by simpa using hE) w1 (fun p hp => by simpa [hE p hp] using hA p hp)
        · cases hK
    have key : ∀ (k : Nat) (E : List (Nat × Nat)) (l : List Nat), (∀ p ∈ E, p.1 < ops.size) → treeK c st K k (addEs ops E) l = some r → (∀ p ∈ E, Ahd p.1 p.2 false (Region.linearise.go .any ops ops.size t (Array.replicate ops.size false) [])) →
        wpOps P ops (Only fun a' w' => Out c Z K r e.φ w a' w') (Region.linearise.go .any ops ops.size t (Array.replicate ops.size false) []) a { w with drawn := w.drawn + 1 } := by
      intro k
      induction k with
      | zero => intro E l _ hK; cases hK
      | succ k ih =>
        intro E l hE hK hA
        simp only [treeK] at hK
        cases hb : Nat.beq l.length (addEs ops E).toList.length with
        | true =>
          simp only [hb, cond_true] at hK
          exact leaf E l hE hK hA
        | false =>
          simp only [hb, cond_false] at hK
          split at hK
          · rename_i o1 o2 A B ht
            obtain ⟨q1, q2, q3⟩ := twoOf_spec ht
            have hsz : (addEs ops E).toList.length = ops.size := by rw [Array.length_toList, addEs_size]
            rw [hsz] at q2 q3
            obtain ⟨k1, k2⟩ := both_some hK
            rcases ahd_or q1 (Region.linearise.go .any ops ops.size t (Array.replicate ops.size false) []) with ho | ho
            · exact leaf ((A, B) :: E) o1 (List.forall_mem_cons.2 ⟨q2, hE⟩) k1 (List.forall_mem_cons.2 ⟨ho, hA⟩)
            · exact ih ((B, A) :: E) o2 (List.forall_mem_cons.2 ⟨q3, hE⟩) k2 (List.forall_mem_cons.2 ⟨ho, hA⟩)
          · cases hK
    exact key k [] l (by simp) hK (by simp)
end
end Dn
/-
  Functions of the library, by hand: copies of slices. Conditions: none.
-/
set_option linter.unusedSimpArgs false
set_option linter.unusedVariables false
namespace Dn
open Go

section
variable {P : Program} {c : Ctx} {Q : Exit → Act → World → Prop} {ops : Array Oper} {o : Oper} {a : Act} {w w' : World}

/-- one operation, of which it is known what it yields -/
theorem wp_val {i : Nat} {rest : List Nat} {v : Value} (hi : ops[i]? = some o) (hg : o.guard = none) (hrun : (execOp a.eval o).run P w = .ok (.value v) w')
    (h : wpOps P ops Q rest (a.put o.dst v) w') : wpOps P ops Q (i :: rest) a w := by
  rw [wpOps_cons]
  unfold wpOp
  simp only [hi, Region.wanted, hg, if_true]
  left
  unfold Oper.wp
  rw [hrun, Oper.upon_value]; exact h

/-- what an operation is, but for its place in the text -/
structure IsOp (o : Oper) (d : Nat) (op : Op) : Prop where
  dst : o.dst = some d
  op : o.op = op
  guard : o.guard = none

theorem src_of {key : Nat → Nat} {φ : Ph} {size : Nat} {v : Value} {xs : List MV} (himm : Imm φ w) (hpos : 0 < size) (hx : Rep key φ [v] (.list xs)) (hw : wids size xs = true) : ∃ news, Src (env0 key φ) w size v xs news := by
  generalize hv : [v] = vs at hx
  cases hx with
  | list ad cap _ blk off esz f g1 g2 g3 g4 g5 =>
  simp at hv
  have hes : ∀ i, i < xs.length → (f i).length = size := by
    intro i hi
    rw [(g5 i hi).width]
    exact wids_mem hw _ (List.getElem_mem hi)
  obtain ⟨cs, h1, h2⟩ := elems_flat hes g5
  refine ⟨cs, h1, ad, cap, hv, ?_, ?_⟩
  · intro hn
    cases xs with
    | nil => rfl
    | cons y ys => have := g2 (by simp); rw [hn] at this; cases this
  · intro x hx j u hj
    have hjl : j < cs.length := (List.getElem?_eq_some_iff.1 hj).1
    rw [h1.length] at hjl
    have hpos2 : 0 < xs.length := by
      cases xs with
      | nil => simp at hjl
      | cons y ys => simp
    have had := g2 hpos2
    rw [hx] at had
    cases had
    have hq : j / size < xs.length := (Nat.div_lt_iff_lt_mul hpos).2 hjl
    have hm := Nat.mod_lt j hpos
    have hj2 : j = j / size * size + j % size := by rw [Nat.mul_comm]; exact (Nat.div_add_mod j size).symm
    have e1 := h2 (j / size) (j % size) hq hm
    rw [← hj2, hj] at e1
    have hes2 : esz = size := by rw [← g3 0 hpos2, hes 0 hpos2]
    have e2 := g4 (j / size) (j % size) hq (by rw [hes2]; exact hm)
    rw [← e1, hes2, Nat.add_assoc, ← hj2] at e2
    have := himm _ _ _ e2
    rw [Addr.add_mid]; exact this

/-- a slice is nil, or not -/
theorem run_isnil {t t' : TypeId} {el : TypeId} {x : Operand} {ad : Option Addr} {n cap : Nat} (hu : P.underlying t = some (.slice el)) (ho : o.op = .binOp .eql t x (.const (.slice none 0 0)) t') (hx : a.eval x = .slice ad n cap) :
    (execOp a.eval o).run P w = .ok (.value (.bool ad.isNone)) w := by
  have he : a.eval (.const (.slice none 0 0)) = .slice none 0 0 := rfl
  have heq : ∀ d : Nat, (Op.equalIn (d + 1) t (.slice ad n cap) (.slice none 0 0)).run P w = .ok ad.isNone w := by
    intro d
    cases ad <;> simp [Op.equalIn, run_underlying hu]
  have hb : Go.binOp .eql t (.slice ad n cap) (.slice none 0 0) = (do pure (.bool (← Op.equal t (.slice ad n cap) (.slice none 0 0)))) := rfl
  have hg : ∀ (x y : Operand), (eqGuard .eql t x y (.slice ad n cap) (.slice none 0 0)).run P w = .ok () w := fun _ _ => rfl
  have h2 : (Op.equal t (.slice ad n cap) (.slice none 0 0)).run P w = .ok ad.isNone w := heq 9999
  unfold execOp
  simp only [ho]
  rw [hx, he]
  simp [hg, hb, h2]

theorem clone_ok {f : FuncId} {fn : Func} {t : TypeId} {I E : TI} {i0 i1 i2 i3 : Nat} {oA oB oC oD oE oF oG oH : Oper} {xs : List MV} (hT : TIok P c.ti) (hI : c.tv t = some I) (hL : I.isL = true) (hE : c.tv I.elem = some E) (hb1 : 1 ≤ E.bytes)
    (hfty : c.fty (c.key f) = I.elem) (hg : c.gives (c.key f) = false)
    (hf : P.funcs[f]? = some fn) (hname : (fn.name == "runtime.NumGoroutine") = false) (hn : fn.ntmps = 8) (hr : fn.results = #[.tmp 2])
    (hbody : fn.body = some (.seq (.region i0 #[oA] false) (.seq (.seq (.region i1 #[oB, oC] false) (.cond (.tmp 4) (.seq (.region i2 #[oD] false) .ret) .skip)) (.seq (.region i3 #[oE, oF, oG, oH] false) .ret))))
    (hA : IsOp oA 2 (.assign (.const (.slice none 0 0)))) (hB : IsOp oB 3 (.move (.tmp 0))) (hC : IsOp oC 4 (.binOp .eql t (.tmp 3) (.const (.slice none 0 0)) t)) (hD : IsOp oD 2 (.assign (.const (.slice none 0 0))))
    (hEo : IsOp oE 5 (.buildSlice t 0 #[])) (hF : IsOp oF 6 (.move (.tmp 0))) (hG : IsOp oG 7 (.call { callee := .builtin .append, args := #[.tmp 5, .tmp 6], argTypes := #[t, t] })) (hH : IsOp oH 2 (.assign (.tmp 7)))
    (hw : wids E.size xs = true) (hlim : xs.length * E.bytes ≤ 2 ^ 46) : Sound1 P c f [.list xs] (.fresh xs) := by
  obtain ⟨hIt, hIc⟩ := tv_some hI
  obtain ⟨hEi, hEc⟩ := tv_some hE
  obtain ⟨hu, E2, hE2, _, hpos⟩ := TI.isL_of (hT t I hIt) hL
  rw [hEi] at hE2
  cases hE2
  intro φ W Z vs hz hargs himm
  simp only [ArgsIn, hg, Bool.false_eq_true, if_false] at hargs
  obtain ⟨v, u, rfl, ⟨_, hx⟩, hu0⟩ := hargs
  have hu0 : u = [] := hu0
  subst hu0
  obtain ⟨ad, cap, hv, hcap, hnn⟩ : ∃ ad cap, v = .slice ad xs.length cap ∧ xs.length ≤ cap ∧ (0 < xs.length → ad ≠ none) := by
    have hx2 := hx
    generalize hvs : [v] = vs at hx2
    cases hx2 with
    | list ad cap _ blk off esz f g1 g2 g3 g4 g5 => exact ⟨ad, cap, by simpa using hvs, g1, fun h0 hn => by rw [g2 h0] at hn; cases hn⟩
  have hrun : (callFunc f [v].toArray).run P W = .ok (.enter f #[v]) W := by
    have hn2 : ¬ fn.name = "runtime.NumGoroutine" := by simpa using hname
    simp [callFunc, hf, hn2, hbody]
  unfold CallOK
  rw [hrun]
  refine calls_of_wp hf hbody ?_
  rw [hn]
  have ha0 : ({ tmps := #[v] ++ Array.replicate (8 - (#[v] : Array Value).size) undef, defers := [] } : Act) = { tmps := #[v, undef, undef, undef, undef, undef, undef, undef], defers := [] } := rfl
  rw [ha0]
  have hlr1 : List.range (#[oA] : Array Oper).size = [0] := rfl
  have hlr2 : List.range (#[oB, oC] : Array Oper).size = [0, 1] := rfl
  have hlr4 : List.range (#[oE, oF, oG, oH] : Array Oper).size = [0, 1, 2, 3] := rfl
  have hlrD : List.range (#[oD] : Array Oper).size = [0] := rfl
  -- what it ends with
  have fin : ∀ (a : Act) (W' : World) (v' : Value) (cells : List Value), a.defers = [] → a.tmps.getD 2 undef = v' → (∃ φ', Trans Z φ W φ' W' ∧ Imm φ' W' ∧ ResRep c Z φ' W' (c.key f) v' (.fresh xs)) →
      bodyPost P fn (fun x w'' => ∃ v, x = .returned v ∧ ∃ φ', Trans Z φ W φ' w'' ∧ Imm φ' w'' ∧ ResRep c Z φ' w'' (c.key f) v (.fresh xs)) .ret a W' := by
    intro a W' v' cells hd h2 h3
    refine ⟨hd, v', ?_, v', rfl, h3⟩
    have h2' : a.tmps[2]?.getD undef = v' := by simpa using h2
    simp [results, hr, h2']
  refine wp_seq (wp_region ?_)
  rw [hlr1]
  refine wp_val (o := oA) rfl hA.guard (v := .slice none 0 0) (w' := W) (by simp [execOp, hA.op]; rfl) ?_
  rw [hA.dst]
  refine wp_seq (wp_seq (wp_region ?_))
  rw [hlr2]
  refine wp_val (o := oB) rfl hB.guard (v := v) (w' := W) (by simp [execOp, hB.op]; rfl) ?_
  rw [hB.dst]
  refine wp_val (o := oC) rfl hC.guard (v := .bool ad.isNone) (w' := W) (run_isnil hu hC.op (by rw [← hv]; rfl)) ?_
  rw [hC.dst]
  refine wp_cond (t := ad.isNone) rfl ?_
  cases had : ad.isNone with
  | true =>
    have had : ad = none := by simpa using had
    have hxs : xs = [] := by
      cases xs with
      | nil => rfl
      | cons y ys => exact absurd had (hnn (by simp))
    simp only [if_true]
    refine wp_seq (wp_region ?_)
    rw [hlrD]
    refine wp_val (o := oD) rfl hD.guard (v := .slice none 0 0) (w' := W) (by simp [execOp, hD.op]; rfl) ?_
    rw [hD.dst]
    refine wp_ret ?_
    refine fin _ W (.slice none 0 0) [] rfl rfl ⟨φ, .refl _ _ _, himm, ?_⟩
    show FamOK c (Zone.plain Z) (env0 c.key φ) W _ ⟨c.fty (c.key f), false, xs⟩
    rw [hfty, hxs]
    exact ⟨E, [], hEi, hEc, ⟨by simp, .inl ⟨rfl, rfl⟩⟩, rfl, fun blk hb => by simp [Value.ownBlock] at hb⟩
  | false =>
    simp only [Bool.false_eq_true, if_false]
    refine wp_skip ?_
    refine wp_seq (wp_region ?_)
    rw [hlr4]
    have hlit := lit_run (P := P) (c := c) (w := W) (t := t) (I := I) (vs := []) (parts := #[]) hu hEi hEc hpos hT (by simp) (by simp) rfl
    simp only [List.length_nil, List.flatMap_nil] at hlit
    refine wp_val (o := oE) rfl hEo.guard (v := .slice (some ⟨W.heap.size, 0, none⟩) 0 0) (w' := W.alloc (.cells #[] I.elem)) (by simp [execOp, hEo.op, hlit]) ?_
    rw [hEo.dst]
    refine wp_val (o := oF) rfl hF.guard (v := v) (w' := W.alloc (.cells #[] I.elem)) (by simp [execOp, hF.op]; rfl) ?_
    rw [hF.dst]
    obtain ⟨news, hsrc⟩ := src_of himm hpos hx hw
    have hg1 : Grow W (W.alloc (.cells #[] I.elem)) := .alloc W _ _
    have hsrc1 : Src (env0 c.key φ) (W.alloc (.cells #[] I.elem)) E.size v xs news := by
      obtain ⟨ad', cap', q1, q2, q3⟩ := hsrc.val
      exact ⟨hsrc.els, ad', cap', q1, q2, fun x hx j u hj => hg1.cell (q3 x hx j u hj)⟩
    have hown : (W.alloc (.cells #[] I.elem)).ownsRow 0 I.elem E.size (.slice (some ⟨W.heap.size, 0, none⟩) 0 0) 0 [] :=
      ⟨by simp, .inr ⟨W.heap.size, 0, #[], rfl, Nat.zero_le _, heapNew W _, Nat.le_refl _, Nat.zero_le _, by simp, by simp⟩⟩
    obtain ⟨v', W', hrun2, hap⟩ := append_run (P := P) (c := c) (ty := oG.type) hu hEi hEc hpos hT hb1 hown (hsrc1.apx hu) (by simpa using hlim)
    refine wp_val (o := oG) rfl hG.guard (v := v') (w' := W') (by
      have e1 : ∀ (a : Act), a.eval (.tmp 5) = .slice (some ⟨W.heap.size, 0, none⟩) 0 0 → a.eval (.tmp 6) = v → (execOp a.eval oG).run P (W.alloc (.cells #[] I.elem)) = .ok (.value v') W' := by
        intro a h5 h6
        simp [execOp, hG.op, resolve, invoke, builtin, h5, h6, hrun2]
      exact e1 _ rfl rfl) ?_
    rw [hG.dst]
    refine wp_val (o := oH) rfl hH.guard (v := v') (w' := W') (by simp [execOp, hH.op]; rfl) ?_
    rw [hH.dst]
    refine wp_ret ?_
    refine fin _ W' v' [] rfl rfl ?_
    have hsz : W.heap.size ≤ W'.heap.size := Nat.le_trans hg1.size hap.size
    have hold : ∀ b, b < W.heap.size → W'.heap[b]? = W.heap[b]? := by
      intro b hb
      rw [hap.old b (Nat.lt_of_lt_of_le hb hg1.size) (by simp [Value.ownBlock]; omega)]
      exact hg1.old b hb
    refine ⟨φ, ⟨.refl _, fun b _ hb => hold b hb, fun _ _ _ => rfl, hsz, hg1.rest.trans hap.rest⟩, ?_, ?_⟩
    · intro b o u hbo
      have h1 := himm b o u hbo
      rw [World.cell?_of_block (hold b (World.block_lt_of_cell? W _ h1))]; exact h1
    · show FamOK c (Zone.plain Z) (env0 c.key φ) W' v' ⟨c.fty (c.key f), false, xs⟩
      rw [hfty]
      refine ⟨E, news, hEi, hEc, by simpa using hap.own, hsrc.els, fun blk hb => ?_⟩
      have hblk : W.heap.size ≤ blk := by
        rcases hap.place with h1 | h1
        · rw [h1] at hb; simp [Value.ownBlock] at hb; omega
        · rw [h1] at hb
          cases hb
          exact hg1.size
      refine ⟨hz blk hblk, fun off u hu => ?_, fun hc => hc.elim⟩
      have := World.block_lt_of_cell? W _ (himm _ _ _ hu)
      have : blk < W.heap.size := this
      omega
end

end Dn
/-
  Tables of functions. Conditions: none.
-/
namespace Dn
open Go
/-- a table of functions does what it says -/
structure SoundG (P : Program) (c : Ctx) (g : Nat → List MV → Option MV) : Prop where
  all : ∀ f ms r, g (c.key f) ms = some r → Sound1 P c f ms r
/-- one function more -/
abbrev addG (n : Nat) (F : List MV → Option MV) (g : Nat → List MV → Option MV) : Nat → List MV → Option MV := fun k ms => match Nat.beq k n with | true => F ms | false => g k ms
theorem SoundG.add {P : Program} {c : Ctx} {g : Nat → List MV → Option MV} {n : Nat} {F : List MV → Option MV} (h : SoundG P c g) (hF : ∀ f ms r, c.key f = n → F ms = some r → Sound1 P c f ms r) : SoundG P c (addG n F g) := by
  refine ⟨fun f ms r hr => ?_⟩
  unfold addG at hr
  cases hk : Nat.beq (c.key f) n with
  | true => simp only [hk] at hr; exact hF f ms r (Nat.eq_of_beq_eq_true hk) hr
  | false => simp only [hk] at hr; exact h.all f ms r hr
/-- contexts that differ only in what one function's run looks at -/
structure Like (c c' : Ctx) : Prop where
  ti : c'.ti = c.ti
  key : c'.key = c.key
  gives : c'.gives = c.gives
  fresh : c'.fresh = c.fresh
  fty : c'.fty = c.fty
  fk : c'.fk = c.fk
  mt : c'.mt = c.mt
  sig : c'.sig = c.sig
  dels : c'.dels = c.dels
theorem FamOK.like {c c' : Ctx} (h : c'.ti = c.ti) {Z : Zone} {e : Env} {w : World} {v : Value} {o : Own} (hs : FamOK c Z e w v o) : FamOK c' Z e w v o := by
  obtain ⟨I, cells, h1, h2⟩ := hs.row
  exact ⟨I, cells, by rw [h]; exact h1, h2⟩
theorem ResRep.like {c c' : Ctx} (h : Like c c') {Z : Nat → Prop} {φ : Ph} {w : World} {k : Nat} {v : Value} {r : MV} (hs : ResRep c Z φ w k v r) : ResRep c' Z φ w k v r := by
  cases r <;> simp only [ResRep, h.key, h.fty] at hs ⊢ <;> first | exact hs | exact hs.like h.ti
theorem CellIn.like {c c' : Ctx} (h : Like c c') {Z : Nat → Prop} {φ : Ph} {w : World} {blk : Nat} {ks : List LK} {ls : List MV} (hs : CellIn c Z φ w blk ks ls) : CellIn c' Z φ w blk ks ls := by
  obtain ⟨cs, m, E, arr, T, h1, h2, h3, h4, h5, h6, h7⟩ := hs
  refine ⟨cs, m, E, arr, T, h1, h2, h3, h4, by rw [h.key]; exact h5, fun f o ho => ⟨?_, (h6 f o ho).2⟩, h7⟩
  rw [h.key]
  exact (h6 f o ho).1.like h.ti
theorem ResOK.like {c c' : Ctx} (h : Like c c') {Z : Nat → Prop} {φ : Ph} {w : World} {k : Nat} {vs : List Value} {v : Value} {r : MV} (hs : ResOK c Z φ w k vs v r) : ResOK c' Z φ w k vs v r := by
  cases r <;> simp only [ResOK] at hs ⊢ <;> first | exact hs.like h | skip
  obtain ⟨h1, pos, ks, blk, off, h2, h3, h4⟩ := hs
  exact ⟨h1.like h, pos, ks, blk, off, by rw [h.sig]; exact h2, h3, h4.like h⟩
theorem ArgsIn.like {c c' : Ctx} (h : Like c c') {Z : Nat → Prop} {φ : Ph} {w : World} {k : Nat} {vs : List Value} {ms : List MV} (hs : ArgsIn c' Z φ w k vs ms) : ArgsIn c Z φ w k vs ms := by
  unfold ArgsIn at hs ⊢
  rw [h.gives] at hs
  split
  · rename_i hg
    rw [if_pos hg] at hs
    rcases hs with ⟨v0, v1, v2, xs, m1, ys, h1, h2, h3, h4, h5, h6⟩ | ⟨v0, v1, v2, xs, m1, m2, h1, h2, h3, h4, h5, h6⟩ | ⟨pos, ks, off, ls, blk, h1, h2, h3, h4, h5⟩
    · rw [h.key, h.fty] at h3 h5
      rw [h.key] at h4
      exact .inl ⟨v0, v1, v2, xs, m1, ys, h1, h2, h3.like h.ti.symm, h4, h5.like h.ti.symm, h6⟩
    · rw [h.key, h.fty] at h4
      rw [h.key] at h5 h6
      exact .inr (.inl ⟨v0, v1, v2, xs, m1, m2, h1, h2, h3, h4.like h.ti.symm, h5, h6⟩)
    · refine .inr (.inr ⟨pos, ks, off, ls, blk, by rw [← h.sig]; exact h1, h2, h3, by rw [← h.key]; exact h4, ?_⟩)
      obtain ⟨cs, m, E, arr, T, k1, k2, k3, k4, k5, k6, k7⟩ := h5
      refine ⟨cs, m, E, arr, T, k1, k2, k3, k4, by rw [← h.key]; exact k5, fun f o ho => ⟨?_, (k6 f o ho).2⟩, k7⟩
      rw [← h.key]
      exact (k6 f o ho).1.like h.ti.symm
  · rename_i hg
    rw [if_neg hg, h.key] at hs
    exact hs
theorem CallOK.mono {P : Program} {f : FuncId} {args : Array Value} {w : World} {R R' : Value → World → Prop} (hc : CallOK P f args w R) (h : ∀ v w', R v w' → R' v w') : CallOK P f args w R' := by
  unfold CallOK at hc ⊢
  split
  · rename_i heq
    rw [heq] at hc
    exact Calls.mono hc (fun x w'' ⟨v, e, hr⟩ => ⟨v, e, h v w'' hr⟩)
  · rename_i heq
    rw [heq] at hc
    exact h _ _ hc
  · rename_i h1 h2
    split at hc
    · rename_i heq; exact absurd heq (h1 _ _ _)
    · rename_i heq; exact absurd heq (h2 _ _)
    · exact hc
theorem Sound1.like {P : Program} {c c' : Ctx} {f : Nat} {ms : List MV} {r : MV} (h : Like c c') (hs : Sound1 P c f ms r) : Sound1 P c' f ms r := by
  intro φ w Z vs hz ha hi
  rw [h.key] at ha
  refine (hs φ w Z vs hz (ha.like h) hi).mono ?_
  rintro v w' ⟨φ', h1, h2, h3⟩
  rw [h.key]
  exact ⟨φ', h1, h2, h3.like h⟩
theorem Like.symm {c c' : Ctx} (h : Like c c') : Like c' c := ⟨h.ti.symm, h.key.symm, h.gives.symm, h.fresh.symm, h.fty.symm, h.fk.symm, h.mt.symm, h.sig.symm, h.dels.symm⟩
theorem PredOK.like {P : Program} {c c' : Ctx} (h : Like c c') {g : Nat} {lb : Array Value} {S : Type} {Inv : S → (Nat → Prop) → Ph → World → Prop} {step : S → MV → Option (Bool × S)} (hp : PredOK P c' g lb Inv step) : PredOK P c g lb Inv step :=
  ⟨fun h1 h2 h3 h4 h5 => hp.call h1 h2 h3 (by rw [h.key]; exact h4) h5, hp.frame, hp.mono⟩
theorem DelsOK.like {P : Program} {c c' : Ctx} (h : Like c c') (hd : DelsOK P c) : DelsOK P c' := by
  intro f hf
  rw [h.dels] at hf
  have hx := hd f hf
  refine ⟨?_⟩
  intro S Inv step g lb hp v0 xs ys w Z0 φ0 s0 s' h1 h2 h3 h4 h5 h6 h7
  rw [h.key, h.fty] at h2
  refine (hx.run (hp.like h) h1 (h2.like h.ti.symm) h3 h4 h5 h6 h7).mono ?_
  rintro v W ⟨Z, φ, hW, hF, hb⟩
  refine ⟨Z, φ, ⟨hW.inv, hW.new, hW.sub, hW.imm, hW.tr, hW.free⟩, ?_, hb⟩
  rw [h.key, h.fty]
  exact hF.like h.ti
/-- what is asked of a function's head -/
def headB (c : Ctx) (n : Nat) (fn : Func) (caps : List (List Kd)) : Bool :=
  !(fn.name == "runtime.NumGoroutine") && Nat.beq c.n fn.ntmps && Nat.ble (fn.params.size + caps.length) fn.ntmps && !c.gives n
/-- what is asked of a function whose result is given away -/
def freshB (c : Ctx) (n : Nat) (fn : Func) : Option Nat → Bool
  | none => true
  | some ty => Nat.beq ty (c.fty n) && (Nat.beq fn.results.toList.length 1 && (match c.tv ty with | some _ => true | none => false))
theorem freshB_of {c : Ctx} {n : Nat} {fn : Func} {fresh : Option Nat} (h : freshB c n fn fresh = true) : ∀ ty, fresh = some ty → ty = c.fty n ∧ fn.results.toList.length = 1 ∧ ∃ I, c.tv ty = some I := by
  rintro ty rfl
  simp only [freshB, Bool.and_eq_true] at h
  obtain ⟨h1, h2, h3⟩ := h
  refine ⟨Nat.eq_of_beq_eq_true h1, Nat.eq_of_beq_eq_true h2, ?_⟩
  cases hc : c.tv ty with
  | none => rw [hc] at h3; cases h3
  | some I => exact ⟨I, rfl⟩
/-- a function of the program's, out of its abstract run -/
theorem SoundG.body {P : Program} {c c' : Ctx} {g : Nat → List MV → Option MV} {n : Nat} {fn : Func} {caps : List (List Kd)} (h : SoundG P c g) (hl : Like c c') (hgg : c'.g = g) (hti : TIok P c.ti) (heq : EqOK P c.ti) (hfk : ∀ t k, c.fk t = some k → P.underlying t = some (.float k)) (hmt : MapTys P c) (hmix : P.follows .mixedOrders = true) (hdel : DelsOK P c)
    (hf : P.funcs[n]? = some fn) (hh : headB c' n fn caps = true) (hkey : ∀ f, c.key f = f) {fresh : Option Nat} (hfr : freshB c' n fn fresh = true) : SoundG P c (addG n (bodyK c' caps fresh fn) g) := by
  have hG : Good P c' := by
    refine ⟨by rw [hl.ti]; exact hti, by rw [hl.ti]; exact heq, fun f ms r hr => ?_, by rw [hl.fk]; exact hfk, fun t s hs => hmt t s ?_⟩
    · rw [hgg, hl.key] at hr
      exact (h.all f ms r hr).like hl
    · rw [← hs]; unfold msOf Ctx.tv; rw [hl.mt, hl.ti]
  refine h.add (fun f ms r hk hr => ?_)
  rw [hkey] at hk
  subst hk
  simp only [headB, Bool.and_eq_true, Bool.not_eq_true'] at hh
  obtain ⟨⟨⟨h1, h2⟩, h3⟩, h4⟩ := hh
  exact (body_ok hG (draws_ok hG hmix (hdel.like hl)) hf h1 (Nat.eq_of_beq_eq_true h2) (Nat.le_of_ble_eq_true h3) (by rw [hl.key, hkey]; exact h4) (by rw [hl.key, hkey]; exact freshB_of hfr) hr).like hl.symm
theorem addG_ne {n k : Nat} {F : List MV → Option MV} {g : Nat → List MV → Option MV} {ms : List MV} (h : Nat.beq k n = false) : addG n F g k ms = g k ms := by simp [addG, h]
end Dn
/-
  Steps through a function of the library by hand. Conditions: none.
-/
set_option linter.unusedSimpArgs false
set_option linter.unusedVariables false
namespace Dn
open Go
def upd (σ : Nat → Value) (d : Nat) (v : Value) : Nat → Value := fun t => bif Nat.beq t d then v else σ t
def ev (σ : Nat → Value) : Operand → Value
  | .tmp t => σ t
  | .const v => v
  | .global g => .pointer (some ⟨g, 0, none⟩)
  | .func f => .func (.func f) #[] #[]
/-- an activation's variables, as a function -/
structure Tm (a : Act) (n : Nat) (σ : Nat → Value) : Prop where
  defers : a.defers = []
  size : a.tmps.size = n
  get : ∀ t, a.tmps.getD t undef = σ t
theorem Tm.eval {a : Act} {n : Nat} {σ : Nat → Value} (h : Tm a n σ) : a.eval = ev σ := by
  funext x
  cases x with
  | tmp t => exact h.get t
  | _ => rfl
theorem Tm.put {a : Act} {n : Nat} {σ : Nat → Value} (h : Tm a n σ) {d : Nat} (hd : d < n) (v : Value) : Tm (a.put (some d) v) n (upd σ d v) := by
  refine ⟨h.defers, by simp [Act.put, h.size], fun t => ?_⟩
  show (a.tmps.setIfInBounds d v).getD t undef = bif Nat.beq t d then v else σ t
  by_cases ht : t = d
  · subst ht
    have : t < a.tmps.size := by rw [h.size]; exact hd
    simp [this]
  · have hb : Nat.beq t d = false := by
      cases hq : Nat.beq t d with
      | false => rfl
      | true => exact absurd (Nat.eq_of_beq_eq_true hq) ht
    rw [hb]
    have := h.get t
    simp only [Array.getD_eq_getD_getElem?, Array.getElem?_setIfInBounds_ne (Ne.symm ht), cond_false] at this ⊢
    exact this

theorem tm3 (v0 v1 v2 : Value) (k : Nat) : Tm { tmps := #[v0, v1, v2] ++ Array.replicate k undef, defers := [] } (k + 3) (upd (upd (upd (fun _ => undef) 0 v0) 1 v1) 2 v2) := by
  refine ⟨rfl, by simp [Nat.add_comm], fun q => ?_⟩
  by_cases h0 : q = 0
  · subst h0; show (#[v0, v1, v2] ++ Array.replicate k undef).getD 0 undef = v0; simp [Array.getElem?_append]
  by_cases h1 : q = 1
  · subst h1; show (#[v0, v1, v2] ++ Array.replicate k undef).getD 1 undef = v1; simp [Array.getElem?_append]
  by_cases h2 : q = 2
  · subst h2; show (#[v0, v1, v2] ++ Array.replicate k undef).getD 2 undef = v2; simp [Array.getElem?_append]
  have e : ∀ {x y : Nat}, x ≠ y → Nat.beq x y = false := fun {x y} h => by
    cases hq : Nat.beq x y with
    | false => rfl
    | true => exact absurd (Nat.eq_of_beq_eq_true hq) h
  simp only [upd, e h0, e h1, e h2, cond_false]
  have h3 : 3 ≤ q := by omega
  simp [Array.getElem?_append, Array.getElem?_replicate, show ¬ q < 3 by omega]
  by_cases hk : q - 3 < k <;> simp [hk]

section
variable {P : Program} {Q : Exit → Act → World → Prop} {ops : Array Oper} {o : Oper} {a : Act} {w w' : World} {n : Nat} {σ : Nat → Value}

theorem Tm.step {i d : Nat} {op : Op} {rest : List Nat} {v : Value} (htm : Tm a n σ) (hi : ops[i]? = some o) (ho : IsOp o d op) (hd : d < n) (hrun : (execOp (ev σ) o).run P w = .ok (.value v) w')
    (h : ∀ a', Tm a' n (upd σ d v) → wpOps P ops Q rest a' w') : wpOps P ops Q (i :: rest) a w := by
  refine wp_val hi ho.guard (v := v) (w' := w') (by rw [htm.eval]; exact hrun) ?_
  rw [ho.dst]
  exact h _ (htm.put hd v)

theorem run_mv {d : Nat} {x : Operand} {e : Operand → Value} (ho : IsOp o d (.move x)) (w : World) : (execOp e o).run P w = .ok (.value (e x)) w := by simp [execOp, ho.op]
theorem run_asg {d : Nat} {x : Operand} {e : Operand → Value} (ho : IsOp o d (.assign x)) (w : World) : (execOp e o).run P w = .ok (.value (e x)) w := by simp [execOp, ho.op]
theorem run_len {d : Nat} {t el : TypeId} {x : Operand} {e : Operand → Value} {ad : Option Addr} {m c : Nat} (ho : IsOp o d (.call { callee := .builtin .len, args := #[x], argTypes := #[t] })) (hu : P.underlying t = some (.slice el)) (hx : e x = .slice ad m c) (w : World) :
    (execOp e o).run P w = .ok (.value (.int .i64 m)) w := by simp [execOp, ho.op, resolve, invoke, builtin, hx, Builtin.len_, goInt, run_underlying hu]
theorem run_cap {d : Nat} {t el : TypeId} {x : Operand} {e : Operand → Value} {ad : Option Addr} {m c : Nat} (ho : IsOp o d (.call { callee := .builtin .cap, args := #[x], argTypes := #[t] })) (hu : P.underlying t = some (.slice el)) (hx : e x = .slice ad m c) (w : World) :
    (execOp e o).run P w = .ok (.value (.int .i64 c)) w := by simp [execOp, ho.op, resolve, invoke, builtin, hx, Builtin.cap_, goInt, run_underlying hu]
theorem run_ibin {d : Nat} {op : BinOp} {t t' : TypeId} {x y : Operand} {e : Operand → Value} {k : IntKind} {p q : Int} {v : Value} (ho : IsOp o d (.binOp op t x y t')) (hx : e x = .int k p) (hy : e y = .int k q)
    (hv : ∀ w : World, (Go.binOp op t (.int k p) (.int k q)).run P w = .ok v w) (w : World) : (execOp e o).run P w = .ok (.value v) w := by
  have hg : (eqGuard op t x y (.int k p) (.int k q)).run P w = .ok () w := by cases op <;> rfl
  simp [execOp, ho.op, hx, hy, hg, hv]
theorem run_ieq {d : Nat} {t t' : TypeId} {x y : Operand} {e : Operand → Value} {p q : Int} (ho : IsOp o d (.binOp .eql t x y t')) (hx : e x = .int .i64 p) (hy : e y = .int .i64 q) (w : World) :
    (execOp e o).run P w = .ok (.value (.bool (decide (p = q)))) w := run_ibin ho hx hy (fun w => by simp [Go.binOp, Op.intCmp]; rfl) w
theorem run_igtr {d : Nat} {t t' : TypeId} {x y : Operand} {e : Operand → Value} {p q : Int} (ho : IsOp o d (.binOp .gtr t x y t')) (hx : e x = .int .i64 p) (hy : e y = .int .i64 q) (w : World) :
    (execOp e o).run P w = .ok (.value (.bool (decide (q < p)))) w := run_ibin ho hx hy (fun w => by simp [Go.binOp, Op.intCmp]) w
theorem run_iadd {d : Nat} {t t' : TypeId} {x y : Operand} {e : Operand → Value} {p q : Nat} (ho : IsOp o d (.binOp .add t x y t')) (hx : e x = .int .i64 p) (hy : e y = .int .i64 q) (hl : p + q < 2 ^ 63) (w : World) :
    (execOp e o).run P w = .ok (.value (.int .i64 ((p + q : Nat) : Int))) w := run_ibin ho hx hy (fun w => by
      have : IntKind.i64.wrap ((p : Int) + (q : Int)) = ((p + q : Nat) : Int) := by rw [IntKind.wrap_i64]; omega
      simp [Go.binOp, Op.intArith, this]) w
theorem run_isub {d : Nat} {t t' : TypeId} {x y : Operand} {e : Operand → Value} {p q : Nat} (ho : IsOp o d (.binOp .sub t x y t')) (hx : e x = .int .i64 p) (hy : e y = .int .i64 q) (hl : p < 2 ^ 63) (hq : q ≤ p) (w : World) :
    (execOp e o).run P w = .ok (.value (.int .i64 ((p - q : Nat) : Int))) w := run_ibin ho hx hy (fun w => by
      have : IntKind.i64.wrap ((p : Int) - (q : Int)) = ((p - q : Nat) : Int) := by rw [IntKind.wrap_i64]; omega
      simp [Go.binOp, Op.intArith, this]) w
theorem run_not {d : Nat} {t : TypeId} {x : Operand} {e : Operand → Value} {b : Bool} (ho : IsOp o d (.unOp .not t x)) (hx : e x = .bool b) (w : World) :
    (execOp e o).run P w = .ok (.value (.bool (!b))) w := by simp [execOp, ho.op, hx, Op.unary]
/-- a part of a slice, from some index on -/
theorem run_from {d : Nat} {t el : TypeId} {x y : Operand} {e : Operand → Value} {ad : Option Addr} {m c l size : Nat} {i : TypeInfo} (ho : IsOp o d (.slice t x (some y) none none)) (hu : P.underlying t = some (.slice el)) (hi : P.info? el = some i) (hs : i.size = size)
    (hx : e x = .slice ad m c) (hy : e y = .int .i64 l) (hl : l ≤ m) (w : World) : (execOp e o).run P w = .ok (.value (.slice (if c = l then ad else ad.map (·.add (l * size))) (m - l) (c - l))) w := by
  simp [execOp, ho.op, Instr.sliceAt, Instr.slice, run_underlying hu, hx, hy, Go.sizeOf, typeInfo, hi, hs, Instr.sliceBounds, Instr.sliceBound, asIntOf, hl]
/-- .. up to some index -/
theorem run_upto {d : Nat} {t el : TypeId} {x y : Operand} {e : Operand → Value} {ad : Option Addr} {m c l size : Nat} {i : TypeInfo} (ho : IsOp o d (.slice t x none (some y) none)) (hu : P.underlying t = some (.slice el)) (hi : P.info? el = some i) (hs : i.size = size)
    (hx : e x = .slice ad m c) (hy : e y = .int .i64 l) (hl : l ≤ c) (w : World) : (execOp e o).run P w = .ok (.value (.slice ad l c)) w := by
  have h0 : ∀ q : Addr, q.add 0 = q := fun q => by obtain ⟨b, o, s⟩ := q; cases s <;> simp [Addr.add]
  have : (if c = 0 then ad else ad.map (·.add (0 * size))) = ad := by
    cases ad <;> simp [h0]
  simp [execOp, ho.op, Instr.sliceAt, Instr.slice, run_underlying hu, hx, hy, Go.sizeOf, typeInfo, hi, hs, Instr.sliceBounds, Instr.sliceBound, asIntOf, hl]
  cases ad <;> simp [h0]
theorem run_fromA {d : Nat} {t el : TypeId} {x y : Operand} {e : Operand → Value} {g m c l size : Nat} {i : TypeInfo} (ho : IsOp o d (.slice t x (some y) none none)) (hu : P.underlying t = some (.slice el)) (hi : P.info? el = some i) (hs : i.size = size)
    (hx : e x = .slice (some ⟨g, 0, none⟩) m c) (hy : e y = .int .i64 l) (hl : l ≤ m) (hc : l < c) (w : World) : (execOp e o).run P w = .ok (.value (.slice (some ⟨g, l * size, none⟩) (m - l) (c - l))) w := by
  rw [run_from ho hu hi hs hx hy hl w]
  have : ¬ c = l := by omega
  have h0 : (⟨g, 0, none⟩ : Addr).add (l * size) = ⟨g, l * size, none⟩ := by
    have := Addr.add_mid g 0 (l * size)
    rwa [Nat.zero_add] at this
  simp [this, h0]
theorem run_ext {d : Nat} {x y : Operand} {t1 t2 : TypeId} {f : FuncId} {e : Operand → Value} {v1 v2 v : Value} (ho : IsOp o d (.call { callee := .value (.func f), args := #[x, y], argTypes := #[t1, t2] })) (he : e (.func f) = .func (.func f) #[] #[]) (hx : e x = v1) (hy : e y = v2)
    (h : (callFunc f #[v1, v2]).run P w = .ok (.value v) w') : (execOp e o).run P w = .ok (.value v) w' := by
  simp [execOp, ho.op, resolve, invoke, builtin, he, hx, hy, Deferred.ofValue, h]
theorem run_app2 {d : Nat} {x y : Operand} {t1 t2 : TypeId} {e : Operand → Value} {v1 v2 v : Value} (ho : IsOp o d (.call { callee := .builtin .append, args := #[x, y], argTypes := #[t1, t2] })) (hx : e x = v1) (hy : e y = v2)
    (h : (Builtin.append_ #[t1, t2] o.type #[v1, v2]).run P w = .ok v w') : (execOp e o).run P w = .ok (.value v) w' := by
  simp [execOp, ho.op, resolve, invoke, builtin, hx, hy, h]
theorem run_cpy2 {d : Nat} {x y : Operand} {t1 t2 : TypeId} {e : Operand → Value} {v1 v2 v : Value} (ho : IsOp o d (.call { callee := .builtin .copy, args := #[x, y], argTypes := #[t1, t2] })) (hx : e x = v1) (hy : e y = v2)
    (h : (Builtin.copy_ #[t1, t2] o.type #[v1, v2]).run P w = .ok v w') : (execOp e o).run P w = .ok (.value v) w' := by
  simp [execOp, ho.op, resolve, invoke, builtin, hx, hy, h]
theorem run_copy_wide {dT sT ty elem t : TypeId} {g o dLen dCap sLen sCap size k : Nat} {a : Addr} {cur : Array Value} {cs : List Value} {i : TypeInfo} (hu : P.underlying dT = some (.slice elem)) (hi : P.info? elem = some i) (hs : i.size = size)
    (hg : w.heap[g]? = some (.cells cur t (0, 0))) (hk : Nat.min sLen dLen = k) (hn : cs.length = k * size)
    (hsrc : ∀ (j : Nat) v, cs[j]? = some v → w.cell? (a.add j) = some v) (hfit : o + cs.length ≤ cur.size) (h1 : ∀ v ∈ cs, v.oneCell' = true) :
    (Builtin.copy_ #[dT, sT] ty #[.slice (some ⟨g, o, none⟩) dLen dCap, .slice (some a) sLen sCap]).run P w =
      .ok (goInt k) (w.setRow g (cur.toList.take o ++ cs ++ cur.toList.drop (o + cs.length)).toArray) := by
  have hl := run_loadCells_list (P := P) w a cs hsrc
  have hst := run_storeCells_at P g o t cs 0 cur w hg (by simpa using hfit) h1
  simp only [Nat.add_zero] at hst
  simp [Builtin.copy_, run_underlying hu, Builtin.lenOf, Builtin.firstCells, Go.sizeOf, typeInfo, hi, hs, hk, ← hn, hl, hst]
/-- .. of nothing -/
theorem run_copy_none {dT sT ty elem : TypeId} {dLen dCap sCap : Nat} {ad bs : Option Addr} {i : TypeInfo} (hu : P.underlying dT = some (.slice elem)) (hi : P.info? elem = some i) :
    (Builtin.copy_ #[dT, sT] ty #[.slice ad dLen dCap, .slice bs 0 sCap]).run P w = .ok (goInt 0) w := by
  cases ad <;> cases bs <;> simp [Builtin.copy_, run_underlying hu, Builtin.lenOf, Builtin.firstCells, Go.sizeOf, typeInfo, hi, storeCells, loadCells, loadCellsFrom]

/-- a region whose order is open, whose operations can be run one after the other: all but the last one yield what they yield wherever they stand -/
def inOrd (ops : Array Oper) : Nat → Nat → Array Bool → Bool
  | 0, i, listed => (Region.ready .any ops (listed.setIfInBounds i true)).isEmpty && (Region.ready .any ops listed == [i])
  | k + 1, i, listed => Region.free .any ops listed i && (Region.ready .any ops listed).contains i && inOrd ops k (i + 1) (listed.setIfInBounds i true)
def drawB (ops : Array Oper) : Bool := Region.noSelect ops && Nat.blt 0 ops.size && inOrd ops (ops.size - 1) 0 (Array.replicate ops.size false)
/-- from here on in order -/
structure InOrd (ops : Array Oper) (k i : Nat) (listed : Array Bool) : Prop where
  sel : Region.noSelect ops = true
  ord : inOrd ops k i listed = true
theorem Tm.draw {N : Act → World → Prop} {i d : Nat} {op : Op} {k : Nat} {listed : Array Bool} {v : Value} (htm : Tm a n σ) (hi : ops[i]? = some o) (ho : IsOp o d op) (hd : d < n) (hb : InOrd ops (k + 1) i listed) (hrun : ∀ w, (execOp (ev σ) o).run P w = .ok (.value v) w)
    (h : ∀ a', Tm a' n (upd σ d v) → InOrd ops k (i + 1) (listed.setIfInBounds i true) → wpAny P .any ops (Only N) (k + 1) (listed.setIfInBounds i true) a' w) : wpAny P .any ops (Only N) (k + 2) listed a w := by
  obtain ⟨hs, hb⟩ := hb
  simp only [inOrd, Bool.and_eq_true] at hb
  obtain ⟨⟨h1, h2⟩, h3⟩ := hb
  refine wpAny_take hi hs h1 h2 (fun c a w hq => hq.elim) (v := v) (.inl ⟨by simp [Region.wanted, ho.guard], fun w => by rw [htm.eval]; exact hrun w⟩) ?_
  rw [ho.dst]
  exact h _ (htm.put hd v) ⟨hs, h3⟩
theorem Tm.last {N : Act → World → Prop} {i d : Nat} {op : Op} {listed : Array Bool} {v : Value} (htm : Tm a n σ) (hi : ops[i]? = some o) (ho : IsOp o d op) (hd : d < n) (hb : InOrd ops 0 i listed) (hrun : (execOp (ev σ) o).run P w = .ok (.value v) w')
    (h : ∀ a', Tm a' n (upd σ d v) → N a' w') : wpAny P .any ops (Only N) 1 listed a w := by
  obtain ⟨hs, hb⟩ := hb
  simp only [inOrd, Bool.and_eq_true, List.isEmpty_iff, beq_iff_eq] at hb
  obtain ⟨h1, h2⟩ := hb
  refine wpAny_all h2 (by simp) ?_
  intro j hj
  simp only [List.mem_singleton] at hj
  subst hj
  unfold wpOp
  simp only [hi, Region.wanted, ho.guard, if_true]
  left
  unfold Oper.wp
  rw [htm.eval, hrun, Oper.upon_value, ho.dst]
  exact wpAny_done h1 (h _ (htm.put hd v)) 0
theorem wp_draw {id k : Nat} (hm : P.follows .mixedOrders = true) (hb : drawB ops = true) (hk : ops.size = k + 1) (h : InOrd ops k 0 (Array.replicate (k + 1) false) → wpAny P .any ops (Only fun a w => Q .normal a w) (k + 1) (Array.replicate (k + 1) false) a { w with drawn := w.drawn + 1 }) :
    (Code.region id ops true).wp P Q a w := by
  simp only [drawB, Bool.and_eq_true] at hb
  rw [hk] at hb
  refine Code.wp_mono ?_ (wp_region_any (Q := Only fun a w => Q .normal a w) hm (by rw [hk]; exact h ⟨hb.1.1, hb.2⟩))
  intro x a' w' hx
  cases x <;> first | exact hx | exact hx.elim
theorem Tm.cond {x : Operand} {b : Bool} {A B : Code} (htm : Tm a n σ) (hx : ev σ x = .bool b) (h : (if b then A else B).wp P Q a w) : (Code.cond x A B).wp P Q a w := by
  refine wp_cond (t := b) (by rw [htm.eval]; exact hx) h
end
end Dn
/-
  slices.Insert of the library, walked. Printed by a program. Conditions: none.
-/
set_option linter.unusedSimpArgs false
set_option linter.unusedVariables false
namespace Dn
open Go
def insCode (r : Nat → Nat) (o : Nat → Oper) (tail : Code) : Code :=
  .seq (.region (r 0) #[o 0] false) (.seq (.region (r 1) #[o 1, o 2, o 3] false) (.seq (.region (r 2) #[o 4, o 5, o 6] false) (.seq (.seq (.region (r 3) #[o 7, o 8] false) (.cond (.tmp 16) (.seq (.region (r 4) #[o 9, o 10] false) .ret) .skip)) (.seq (.region (r 5) #[o 11, o 12, o 13] false) (.seq (.seq (.region (r 6) #[o 14, o 15, o 16] false) (.cond (.tmp 22) (.seq (.region (r 7) #[o 17, o 18, o 19, o 20] false) .ret) .skip)) (.seq (.seq (.region (r 8) #[o 21, o 22, o 23, o 24, o 25, o 26] false) (.cond (.tmp 31) (.seq (.region (r 9) #[o 27, o 28, o 29, o 30, o 31, o 32, o 33, o 34, o 35, o 36] false) (.seq (.region (r 10) #[o 37, o 38, o 39, o 40, o 41] false) (.seq (.region (r 11) #[o 42, o 43, o 44, o 45, o 46, o 47, o 48, o 49, o 50] true) (.seq (.region (r 12) #[o 51, o 52] false) .ret)))) .skip)) (.seq (.region (r 13) #[o 53, o 54, o 55, o 56, o 57, o 58] false) (.seq (.seq (.region (r 14) #[o 59, o 60, o 61, o 62, o 63, o 64, o 65, o 66] false) (.cond (.tmp 68) (.seq (.region (r 15) #[o 67, o 68, o 69, o 70, o 71, o 72, o 73, o 74, o 75] true) (.seq (.region (r 16) #[o 76, o 77, o 78, o 79, o 80] false) (.seq (.region (r 17) #[o 81, o 82] false) .ret))) .skip)) tail))))))))
structure InsOps (t ti tb fo : Nat) (o : Nat → Oper) : Prop where
  h0 : IsOp (o 0) 6 (.assign (.const (.slice none 0 0)))
  h1 : IsOp (o 1) 10 (.move (.tmp 0))
  h2 : IsOp (o 2) 11 (.move (.tmp 1))
  h3 : IsOp (o 3) 12 (.slice t (.tmp 10) (some (.tmp 11)) none none)
  h4 : IsOp (o 4) 13 (.move (.tmp 2))
  h5 : IsOp (o 5) 14 (.call { callee := .builtin .len, args := #[.tmp 13], argTypes := #[t] })
  h6 : IsOp (o 6) 7 (.assign (.tmp 14))
  h7 : IsOp (o 7) 15 (.move (.tmp 7))
  h8 : IsOp (o 8) 16 (.binOp .eql ti (.tmp 15) (.const (.int .i64 0)) ti)
  h9 : IsOp (o 9) 17 (.move (.tmp 0))
  h10 : IsOp (o 10) 6 (.assign (.tmp 17))
  h11 : IsOp (o 11) 18 (.move (.tmp 0))
  h12 : IsOp (o 12) 19 (.call { callee := .builtin .len, args := #[.tmp 18], argTypes := #[t] })
  h13 : IsOp (o 13) 8 (.assign (.tmp 19))
  h14 : IsOp (o 14) 20 (.move (.tmp 1))
  h15 : IsOp (o 15) 21 (.move (.tmp 8))
  h16 : IsOp (o 16) 22 (.binOp .eql ti (.tmp 20) (.tmp 21) ti)
  h17 : IsOp (o 17) 23 (.move (.tmp 0))
  h18 : IsOp (o 18) 24 (.move (.tmp 2))
  h19 : IsOp (o 19) 25 (.call { callee := .builtin .append, args := #[.tmp 23, .tmp 24], argTypes := #[t, t] })
  h20 : IsOp (o 20) 6 (.assign (.tmp 25))
  h21 : IsOp (o 21) 26 (.move (.tmp 8))
  h22 : IsOp (o 22) 27 (.move (.tmp 7))
  h23 : IsOp (o 23) 28 (.binOp .add ti (.tmp 26) (.tmp 27) ti)
  h24 : IsOp (o 24) 29 (.move (.tmp 0))
  h25 : IsOp (o 25) 30 (.call { callee := .builtin .cap, args := #[.tmp 29], argTypes := #[t] })
  h26 : IsOp (o 26) 31 (.binOp .gtr ti (.tmp 28) (.tmp 30) ti)
  h27 : IsOp (o 27) 32 (.move (.tmp 0))
  h28 : IsOp (o 28) 33 (.move (.tmp 1))
  h29 : IsOp (o 29) 34 (.slice t (.tmp 32) none (some (.tmp 33)) none)
  h30 : IsOp (o 30) 35 (.move (.tmp 8))
  h31 : IsOp (o 31) 36 (.move (.tmp 7))
  h32 : IsOp (o 32) 37 (.binOp .add ti (.tmp 35) (.tmp 36) ti)
  h33 : IsOp (o 33) 38 (.move (.tmp 1))
  h34 : IsOp (o 34) 39 (.binOp .sub ti (.tmp 37) (.tmp 38) ti)
  h35 : IsOp (o 35) 40 (.call { callee := .builtin .append, args := #[.tmp 34, .tmp 39], argTypes := #[t, ti] })
  h36 : IsOp (o 36) 9 (.assign (.tmp 40))
  h37 : IsOp (o 37) 41 (.move (.tmp 9))
  h38 : IsOp (o 38) 42 (.move (.tmp 1))
  h39 : IsOp (o 39) 43 (.slice t (.tmp 41) (some (.tmp 42)) none none)
  h40 : IsOp (o 40) 44 (.move (.tmp 2))
  h41 : IsOp (o 41) 45 (.call { callee := .builtin .copy, args := #[.tmp 43, .tmp 44], argTypes := #[t, t] })
  h42 : IsOp (o 42) 46 (.move (.tmp 9))
  h43 : IsOp (o 43) 47 (.move (.tmp 1))
  h44 : IsOp (o 44) 48 (.move (.tmp 7))
  h45 : IsOp (o 45) 49 (.binOp .add ti (.tmp 47) (.tmp 48) ti)
  h46 : IsOp (o 46) 50 (.slice t (.tmp 46) (some (.tmp 49)) none none)
  h47 : IsOp (o 47) 51 (.move (.tmp 0))
  h48 : IsOp (o 48) 52 (.move (.tmp 1))
  h49 : IsOp (o 49) 53 (.slice t (.tmp 51) (some (.tmp 52)) none none)
  h50 : IsOp (o 50) 54 (.call { callee := .builtin .copy, args := #[.tmp 50, .tmp 53], argTypes := #[t, t] })
  h51 : IsOp (o 51) 55 (.move (.tmp 9))
  h52 : IsOp (o 52) 6 (.assign (.tmp 55))
  h53 : IsOp (o 53) 56 (.move (.tmp 0))
  h54 : IsOp (o 54) 57 (.move (.tmp 8))
  h55 : IsOp (o 55) 58 (.move (.tmp 7))
  h56 : IsOp (o 56) 59 (.binOp .add ti (.tmp 57) (.tmp 58) ti)
  h57 : IsOp (o 57) 60 (.slice t (.tmp 56) none (some (.tmp 59)) none)
  h58 : IsOp (o 58) 0 (.assign (.tmp 60))
  h59 : IsOp (o 59) 61 (.move (.tmp 2))
  h60 : IsOp (o 60) 62 (.move (.tmp 0))
  h61 : IsOp (o 61) 63 (.move (.tmp 1))
  h62 : IsOp (o 62) 64 (.move (.tmp 7))
  h63 : IsOp (o 63) 65 (.binOp .add ti (.tmp 63) (.tmp 64) ti)
  h64 : IsOp (o 64) 66 (.slice t (.tmp 62) (some (.tmp 65)) none none)
  h65 : IsOp (o 65) 67 (.call { callee := .value (.func fo), args := #[.tmp 61, .tmp 66], argTypes := #[t, t] })
  h66 : IsOp (o 66) 68 (.unOp .not tb (.tmp 67))
  h67 : IsOp (o 67) 69 (.move (.tmp 0))
  h68 : IsOp (o 68) 70 (.move (.tmp 1))
  h69 : IsOp (o 69) 71 (.move (.tmp 7))
  h70 : IsOp (o 70) 72 (.binOp .add ti (.tmp 70) (.tmp 71) ti)
  h71 : IsOp (o 71) 73 (.slice t (.tmp 69) (some (.tmp 72)) none none)
  h72 : IsOp (o 72) 74 (.move (.tmp 0))
  h73 : IsOp (o 73) 75 (.move (.tmp 1))
  h74 : IsOp (o 74) 76 (.slice t (.tmp 74) (some (.tmp 75)) none none)
  h75 : IsOp (o 75) 77 (.call { callee := .builtin .copy, args := #[.tmp 73, .tmp 76], argTypes := #[t, t] })
  h76 : IsOp (o 76) 78 (.move (.tmp 0))
  h77 : IsOp (o 77) 79 (.move (.tmp 1))
  h78 : IsOp (o 78) 80 (.slice t (.tmp 78) (some (.tmp 79)) none none)
  h79 : IsOp (o 79) 81 (.move (.tmp 2))
  h80 : IsOp (o 80) 82 (.call { callee := .builtin .copy, args := #[.tmp 80, .tmp 81], argTypes := #[t, t] })
  h81 : IsOp (o 81) 83 (.move (.tmp 0))
  h82 : IsOp (o 82) 6 (.assign (.tmp 83))
  d11 : drawB #[o 42, o 43, o 44, o 45, o 46, o 47, o 48, o 49, o 50] = true
  d15 : drawB #[o 67, o 68, o 69, o 70, o 71, o 72, o 73, o 74, o 75] = true
structure InsFn (P : Program) (f t ti tb el fo : Nat) (fn : Func) (r : Nat → Nat) (o : Nat → Oper) (tail : Code) : Prop where
  pos : P.funcs[f]? = some fn
  name : (fn.name == "runtime.NumGoroutine") = false
  tmps : fn.ntmps = 95
  res : fn.results = #[.tmp 6]
  body : fn.body = some (insCode r o tail)
  ops : InsOps t ti tb fo o
  mix : P.follows .mixedOrders = true
  und : P.underlying t = some (.slice el)
section
variable {P : Program} {f t ti tb el fo : Nat} {fn : Func} {r : Nat → Nat} {o : Nat → Oper} {tail : Code} {ie : TypeInfo} {size n m c c2 i g g2 : Nat} {ad : Option Addr} {w : World}
theorem ins_ret {a : Act} {w : World} {σ : Nat → Value} {R : Ending → World → Prop} {v : Value} (hr : fn.results = #[.tmp 6]) (htm : Tm a 95 σ) (h6 : σ 6 = v) (h : R (.returned v) w) : bodyPost P fn R .ret a w := by
  refine ⟨htm.defers, v, ?_, h⟩
  have h2 : a.tmps[6]?.getD undef = v := by have := htm.get 6; rw [h6] at this; simpa using this
  simp [results, hr, h2]
theorem ins_end (hf : InsFn P f t ti tb el fo fn r o tail) (hie : P.info? el = some ie) (hse : ie.size = size) (hm : 0 < m) (hn : n ≤ c) (hc : c < 2 ^ 63) (hnm : n + m < 2 ^ 63) (hi : i = n) {v : Value} {w1 : World} (hrun : ∀ ty, (Builtin.append_ #[t, t] ty #[.slice ad n c, .slice (some ⟨g2, 0, none⟩) m c2]).run P w = .ok v w1)
    : Calls P f #[.slice ad n c, .int .i64 ((i : Nat) : Int), .slice (some ⟨g2, 0, none⟩) m c2] w fun x w' => x = .returned v ∧ w' = w1 := by
  refine calls_of_wp hf.pos hf.body ?_
  rw [hf.tmps]
  have key : ∀ a : Act, Tm a 95 (upd (upd (upd (fun _ => undef) 0 (.slice ad n c)) 1 (.int .i64 ((i : Nat) : Int))) 2 (.slice (some ⟨g2, 0, none⟩) m c2)) → (insCode r o tail).wp P (bodyPost P fn fun x w' => x = .returned v ∧ w' = w1) a w := by
   intro a htm
   unfold insCode
   refine wp_seq (wp_region ?_)
   rw [show List.range (#[o 0] : Array Oper).size = [0] from rfl]
   refine htm.step (v := .slice none 0 0) rfl hf.ops.h0 (by decide) (run_asg hf.ops.h0 _) (fun a htm => ?_)
   refine wp_seq (wp_region ?_)
   rw [show List.range (#[o 1, o 2, o 3] : Array Oper).size = [0, 1, 2] from rfl]
   refine htm.step (v := .slice ad n c) rfl hf.ops.h1 (by decide) (run_mv hf.ops.h1 _) (fun a htm => ?_)
   refine htm.step (v := .int .i64 ((i : Nat) : Int)) rfl hf.ops.h2 (by decide) (run_mv hf.ops.h2 _) (fun a htm => ?_)
   refine htm.step (v := .slice (if c = i then ad else (ad : Option Addr).map (·.add (i * size))) (n - i) (c - i)) rfl hf.ops.h3 (by decide) (run_from hf.ops.h3 hf.und hie hse rfl rfl (by omega) _) (fun a htm => ?_)
   refine wp_seq (wp_region ?_)
   rw [show List.range (#[o 4, o 5, o 6] : Array Oper).size = [0, 1, 2] from rfl]
   refine htm.step (v := .slice (some ⟨g2, 0, none⟩) m c2) rfl hf.ops.h4 (by decide) (run_mv hf.ops.h4 _) (fun a htm => ?_)
   refine htm.step (v := .int .i64 ((m : Nat) : Int)) rfl hf.ops.h5 (by decide) (run_len hf.ops.h5 hf.und rfl _) (fun a htm => ?_)
   refine htm.step (v := .int .i64 ((m : Nat) : Int)) rfl hf.ops.h6 (by decide) (run_asg hf.ops.h6 _) (fun a htm => ?_)
   refine wp_seq ?_
   refine wp_seq (wp_region ?_)
   rw [show List.range (#[o 7, o 8] : Array Oper).size = [0, 1] from rfl]
   refine htm.step (v := .int .i64 ((m : Nat) : Int)) rfl hf.ops.h7 (by decide) (run_mv hf.ops.h7 _) (fun a htm => ?_)
   refine htm.step (v := .bool (decide (((m : Nat) : Int) = ((0 : Nat) : Int)))) rfl hf.ops.h8 (by decide) (run_ieq hf.ops.h8 rfl rfl _) (fun a htm => ?_)
   refine htm.cond (b := false) (by show Value.bool (decide (((m : Nat) : Int) = ((0 : Nat) : Int))) = _; rw [decide_eq_false (by omega)]) ?_
   simp only [Bool.false_eq_true, if_false]
   refine wp_skip ?_
   refine wp_seq (wp_region ?_)
   rw [show List.range (#[o 11, o 12, o 13] : Array Oper).size = [0, 1, 2] from rfl]
   refine htm.step (v := .slice ad n c) rfl hf.ops.h11 (by decide) (run_mv hf.ops.h11 _) (fun a htm => ?_)
   refine htm.step (v := .int .i64 ((n : Nat) : Int)) rfl hf.ops.h12 (by decide) (run_len hf.ops.h12 hf.und rfl _) (fun a htm => ?_)
   refine htm.step (v := .int .i64 ((n : Nat) : Int)) rfl hf.ops.h13 (by decide) (run_asg hf.ops.h13 _) (fun a htm => ?_)
   refine wp_seq ?_
   refine wp_seq (wp_region ?_)
   rw [show List.range (#[o 14, o 15, o 16] : Array Oper).size = [0, 1, 2] from rfl]
   refine htm.step (v := .int .i64 ((i : Nat) : Int)) rfl hf.ops.h14 (by decide) (run_mv hf.ops.h14 _) (fun a htm => ?_)
   refine htm.step (v := .int .i64 ((n : Nat) : Int)) rfl hf.ops.h15 (by decide) (run_mv hf.ops.h15 _) (fun a htm => ?_)
   refine htm.step (v := .bool (decide (((i : Nat) : Int) = ((n : Nat) : Int)))) rfl hf.ops.h16 (by decide) (run_ieq hf.ops.h16 rfl rfl _) (fun a htm => ?_)
   refine htm.cond (b := true) (by show Value.bool (decide (((i : Nat) : Int) = ((n : Nat) : Int))) = _; rw [decide_eq_true (by omega)]) ?_
   simp only [if_true]
   refine wp_seq (wp_region ?_)
   rw [show List.range (#[o 17, o 18, o 19, o 20] : Array Oper).size = [0, 1, 2, 3] from rfl]
   refine htm.step (v := .slice ad n c) rfl hf.ops.h17 (by decide) (run_mv hf.ops.h17 _) (fun a htm => ?_)
   refine htm.step (v := .slice (some ⟨g2, 0, none⟩) m c2) rfl hf.ops.h18 (by decide) (run_mv hf.ops.h18 _) (fun a htm => ?_)
   refine htm.step (v := v) rfl hf.ops.h19 (by decide) (run_app2 hf.ops.h19 rfl rfl (hrun _)) (fun a htm => ?_)
   refine htm.step (v := v) rfl hf.ops.h20 (by decide) (run_asg hf.ops.h20 _) (fun a htm => ?_)
   refine wp_ret ?_
   show bodyPost P fn (fun x wq => x = .returned (v) ∧ wq = w1) .ret a w1
   refine ins_ret hf.res htm (v := v) rfl ?_
   exact ⟨rfl, rfl⟩
  exact key _ (tm3 _ _ _ 92)
theorem ins_grow (hf : InsFn P f t ti tb el fo fn r o tail) (hie : P.info? el = some ie) (hse : ie.size = size) (hm : 0 < m) (hn : n ≤ c) (hc : c < 2 ^ 63) (hnm : n + m < 2 ^ 63) (hi : i < n) (hroom : c < n + m) {g9 G : Nat} {v1 v2 : Value} {w1 w2 w3 : World} (hG : n + m ≤ G) (hA : ∀ ty, (Builtin.append_ #[t, ti] ty #[.slice (some ⟨g, 0, none⟩) i c, .int .i64 ((n + m - i : Nat) : Int)]).run P w = .ok (.slice (some ⟨g9, 0, none⟩) (n + m) G) w1)
    (hB : ∀ ty, (Builtin.copy_ #[t, t] ty #[.slice (some ⟨g9, i * size, none⟩) (n + m - i) (G - i), .slice (some ⟨g2, 0, none⟩) m c2]).run P w1 = .ok v1 w2)
    (hC : ∀ ty, (Builtin.copy_ #[t, t] ty #[.slice (some ⟨g9, (i + m) * size, none⟩) (n + m - (i + m)) (G - (i + m)), .slice (some ⟨g, i * size, none⟩) (n - i) (c - i)]).run P { w2 with drawn := w2.drawn + 1 } = .ok v2 w3)
    : Calls P f #[.slice (some ⟨g, 0, none⟩) n c, .int .i64 ((i : Nat) : Int), .slice (some ⟨g2, 0, none⟩) m c2] w fun x w' => x = .returned (.slice (some ⟨g9, 0, none⟩) (n + m) G) ∧ w' = w3 := by
  refine calls_of_wp hf.pos hf.body ?_
  rw [hf.tmps]
  have key : ∀ a : Act, Tm a 95 (upd (upd (upd (fun _ => undef) 0 (.slice (some ⟨g, 0, none⟩) n c)) 1 (.int .i64 ((i : Nat) : Int))) 2 (.slice (some ⟨g2, 0, none⟩) m c2)) → (insCode r o tail).wp P (bodyPost P fn fun x w' => x = .returned (.slice (some ⟨g9, 0, none⟩) (n + m) G) ∧ w' = w3) a w := by
   intro a htm
   unfold insCode
   refine wp_seq (wp_region ?_)
   rw [show List.range (#[o 0] : Array Oper).size = [0] from rfl]
   refine htm.step (v := .slice none 0 0) rfl hf.ops.h0 (by decide) (run_asg hf.ops.h0 _) (fun a htm => ?_)
   refine wp_seq (wp_region ?_)
   rw [show List.range (#[o 1, o 2, o 3] : Array Oper).size = [0, 1, 2] from rfl]
   refine htm.step (v := .slice (some ⟨g, 0, none⟩) n c) rfl hf.ops.h1 (by decide) (run_mv hf.ops.h1 _) (fun a htm => ?_)
   refine htm.step (v := .int .i64 ((i : Nat) : Int)) rfl hf.ops.h2 (by decide) (run_mv hf.ops.h2 _) (fun a htm => ?_)
   refine htm.step (v := .slice (if c = i then (some ⟨g, 0, none⟩) else ((some ⟨g, 0, none⟩) : Option Addr).map (·.add (i * size))) (n - i) (c - i)) rfl hf.ops.h3 (by decide) (run_from hf.ops.h3 hf.und hie hse rfl rfl (by omega) _) (fun a htm => ?_)
   refine wp_seq (wp_region ?_)
   rw [show List.range (#[o 4, o 5, o 6] : Array Oper).size = [0, 1, 2] from rfl]
   refine htm.step (v := .slice (some ⟨g2, 0, none⟩) m c2) rfl hf.ops.h4 (by decide) (run_mv hf.ops.h4 _) (fun a htm => ?_)
   refine htm.step (v := .int .i64 ((m : Nat) : Int)) rfl hf.ops.h5 (by decide) (run_len hf.ops.h5 hf.und rfl _) (fun a htm => ?_)
   refine htm.step (v := .int .i64 ((m : Nat) : Int)) rfl hf.ops.h6 (by decide) (run_asg hf.ops.h6 _) (fun a htm => ?_)
   refine wp_seq ?_
   refine wp_seq (wp_region ?_)
   rw [show List.range (#[o 7, o 8] : Array Oper).size = [0, 1] from rfl]
   refine htm.step (v := .int .i64 ((m : Nat) : Int)) rfl hf.ops.h7 (by decide) (run_mv hf.ops.h7 _) (fun a htm => ?_)
   refine htm.step (v := .bool (decide (((m : Nat) : Int) = ((0 : Nat) : Int)))) rfl hf.ops.h8 (by decide) (run_ieq hf.ops.h8 rfl rfl _) (fun a htm => ?_)
   refine htm.cond (b := false) (by show Value.bool (decide (((m : Nat) : Int) = ((0 : Nat) : Int))) = _; rw [decide_eq_false (by omega)]) ?_
   simp only [Bool.false_eq_true, if_false]
   refine wp_skip ?_
   refine wp_seq (wp_region ?_)
   rw [show List.range (#[o 11, o 12, o 13] : Array Oper).size = [0, 1, 2] from rfl]
   refine htm.step (v := .slice (some ⟨g, 0, none⟩) n c) rfl hf.ops.h11 (by decide) (run_mv hf.ops.h11 _) (fun a htm => ?_)
   refine htm.step (v := .int .i64 ((n : Nat) : Int)) rfl hf.ops.h12 (by decide) (run_len hf.ops.h12 hf.und rfl _) (fun a htm => ?_)
   refine htm.step (v := .int .i64 ((n : Nat) : Int)) rfl hf.ops.h13 (by decide) (run_asg hf.ops.h13 _) (fun a htm => ?_)
   refine wp_seq ?_
   refine wp_seq (wp_region ?_)
   rw [show List.range (#[o 14, o 15, o 16] : Array Oper).size = [0, 1, 2] from rfl]
   refine htm.step (v := .int .i64 ((i : Nat) : Int)) rfl hf.ops.h14 (by decide) (run_mv hf.ops.h14 _) (fun a htm => ?_)
   refine htm.step (v := .int .i64 ((n : Nat) : Int)) rfl hf.ops.h15 (by decide) (run_mv hf.ops.h15 _) (fun a htm => ?_)
   refine htm.step (v := .bool (decide (((i : Nat) : Int) = ((n : Nat) : Int)))) rfl hf.ops.h16 (by decide) (run_ieq hf.ops.h16 rfl rfl _) (fun a htm => ?_)
   refine htm.cond (b := false) (by show Value.bool (decide (((i : Nat) : Int) = ((n : Nat) : Int))) = _; rw [decide_eq_false (by omega)]) ?_
   simp only [Bool.false_eq_true, if_false]
   refine wp_skip ?_
   refine wp_seq ?_
   refine wp_seq (wp_region ?_)
   rw [show List.range (#[o 21, o 22, o 23, o 24, o 25, o 26] : Array Oper).size = [0, 1, 2, 3, 4, 5] from rfl]
   refine htm.step (v := .int .i64 ((n : Nat) : Int)) rfl hf.ops.h21 (by decide) (run_mv hf.ops.h21 _) (fun a htm => ?_)
   refine htm.step (v := .int .i64 ((m : Nat) : Int)) rfl hf.ops.h22 (by decide) (run_mv hf.ops.h22 _) (fun a htm => ?_)
   refine htm.step (v := .int .i64 ((n + m : Nat) : Int)) rfl hf.ops.h23 (by decide) (run_iadd hf.ops.h23 rfl rfl (by omega) _) (fun a htm => ?_)
   refine htm.step (v := .slice (some ⟨g, 0, none⟩) n c) rfl hf.ops.h24 (by decide) (run_mv hf.ops.h24 _) (fun a htm => ?_)
   refine htm.step (v := .int .i64 ((c : Nat) : Int)) rfl hf.ops.h25 (by decide) (run_cap hf.ops.h25 hf.und rfl _) (fun a htm => ?_)
   refine htm.step (v := .bool (decide (((c : Nat) : Int) < (((n + m) : Nat) : Int)))) rfl hf.ops.h26 (by decide) (run_igtr hf.ops.h26 rfl rfl _) (fun a htm => ?_)
   refine htm.cond (b := true) (by show Value.bool (decide (((c : Nat) : Int) < ((n + m : Nat) : Int))) = _; rw [decide_eq_true (by omega)]) ?_
   simp only [if_true]
   refine wp_seq (wp_region ?_)
   rw [show List.range (#[o 27, o 28, o 29, o 30, o 31, o 32, o 33, o 34, o 35, o 36] : Array Oper).size = [0, 1, 2, 3, 4, 5, 6, 7, 8, 9] from rfl]
   refine htm.step (v := .slice (some ⟨g, 0, none⟩) n c) rfl hf.ops.h27 (by decide) (run_mv hf.ops.h27 _) (fun a htm => ?_)
   refine htm.step (v := .int .i64 ((i : Nat) : Int)) rfl hf.ops.h28 (by decide) (run_mv hf.ops.h28 _) (fun a htm => ?_)
   refine htm.step (v := .slice (some ⟨g, 0, none⟩) i c) rfl hf.ops.h29 (by decide) (run_upto hf.ops.h29 hf.und hie hse rfl rfl (by omega) _) (fun a htm => ?_)
   refine htm.step (v := .int .i64 ((n : Nat) : Int)) rfl hf.ops.h30 (by decide) (run_mv hf.ops.h30 _) (fun a htm => ?_)
   refine htm.step (v := .int .i64 ((m : Nat) : Int)) rfl hf.ops.h31 (by decide) (run_mv hf.ops.h31 _) (fun a htm => ?_)
   refine htm.step (v := .int .i64 ((n + m : Nat) : Int)) rfl hf.ops.h32 (by decide) (run_iadd hf.ops.h32 rfl rfl (by omega) _) (fun a htm => ?_)
   refine htm.step (v := .int .i64 ((i : Nat) : Int)) rfl hf.ops.h33 (by decide) (run_mv hf.ops.h33 _) (fun a htm => ?_)
   refine htm.step (v := .int .i64 (((n + m) - i : Nat) : Int)) rfl hf.ops.h34 (by decide) (run_isub hf.ops.h34 rfl rfl (by omega) (by omega) _) (fun a htm => ?_)
   refine htm.step (v := .slice (some ⟨g9, 0, none⟩) (n + m) G) rfl hf.ops.h35 (by decide) (run_app2 hf.ops.h35 rfl rfl (hA _)) (fun a htm => ?_)
   refine htm.step (v := .slice (some ⟨g9, 0, none⟩) (n + m) G) rfl hf.ops.h36 (by decide) (run_asg hf.ops.h36 _) (fun a htm => ?_)
   refine wp_seq (wp_region ?_)
   rw [show List.range (#[o 37, o 38, o 39, o 40, o 41] : Array Oper).size = [0, 1, 2, 3, 4] from rfl]
   refine htm.step (v := .slice (some ⟨g9, 0, none⟩) (n + m) G) rfl hf.ops.h37 (by decide) (run_mv hf.ops.h37 _) (fun a htm => ?_)
   refine htm.step (v := .int .i64 ((i : Nat) : Int)) rfl hf.ops.h38 (by decide) (run_mv hf.ops.h38 _) (fun a htm => ?_)
   refine htm.step (v := .slice (some ⟨g9, i * size, none⟩) (n + m - i) (G - i)) rfl hf.ops.h39 (by decide) (run_fromA hf.ops.h39 hf.und hie hse rfl rfl (by omega) (by omega) _) (fun a htm => ?_)
   refine htm.step (v := .slice (some ⟨g2, 0, none⟩) m c2) rfl hf.ops.h40 (by decide) (run_mv hf.ops.h40 _) (fun a htm => ?_)
   refine htm.step (v := v1) rfl hf.ops.h41 (by decide) (run_cpy2 hf.ops.h41 rfl rfl (hB _)) (fun a htm => ?_)
   refine wp_seq (wp_draw hf.mix hf.ops.d11 (k := 8) rfl fun hord => ?_)
   refine htm.draw (v := .slice (some ⟨g9, 0, none⟩) (n + m) G) rfl hf.ops.h42 (by decide) hord (fun w => run_mv hf.ops.h42 _) (fun a htm hord => ?_)
   refine htm.draw (v := .int .i64 ((i : Nat) : Int)) rfl hf.ops.h43 (by decide) hord (fun w => run_mv hf.ops.h43 _) (fun a htm hord => ?_)
   refine htm.draw (v := .int .i64 ((m : Nat) : Int)) rfl hf.ops.h44 (by decide) hord (fun w => run_mv hf.ops.h44 _) (fun a htm hord => ?_)
   refine htm.draw (v := .int .i64 ((i + m : Nat) : Int)) rfl hf.ops.h45 (by decide) hord (fun w => run_iadd hf.ops.h45 rfl rfl (by omega) _) (fun a htm hord => ?_)
   refine htm.draw (v := .slice (some ⟨g9, (i + m) * size, none⟩) (n + m - (i + m)) (G - (i + m))) rfl hf.ops.h46 (by decide) hord (fun w => run_fromA hf.ops.h46 hf.und hie hse rfl rfl (by omega) (by omega) _) (fun a htm hord => ?_)
   refine htm.draw (v := .slice (some ⟨g, 0, none⟩) n c) rfl hf.ops.h47 (by decide) hord (fun w => run_mv hf.ops.h47 _) (fun a htm hord => ?_)
   refine htm.draw (v := .int .i64 ((i : Nat) : Int)) rfl hf.ops.h48 (by decide) hord (fun w => run_mv hf.ops.h48 _) (fun a htm hord => ?_)
   refine htm.draw (v := .slice (some ⟨g, i * size, none⟩) (n - i) (c - i)) rfl hf.ops.h49 (by decide) hord (fun w => run_fromA hf.ops.h49 hf.und hie hse rfl rfl (by omega) (by omega) _) (fun a htm hord => ?_)
   refine htm.last (v := v2) rfl hf.ops.h50 (by decide) hord (run_cpy2 hf.ops.h50 rfl rfl (hC _)) (fun a htm => ?_)
   refine wp_seq (wp_region ?_)
   rw [show List.range (#[o 51, o 52] : Array Oper).size = [0, 1] from rfl]
   refine htm.step (v := .slice (some ⟨g9, 0, none⟩) (n + m) G) rfl hf.ops.h51 (by decide) (run_mv hf.ops.h51 _) (fun a htm => ?_)
   refine htm.step (v := .slice (some ⟨g9, 0, none⟩) (n + m) G) rfl hf.ops.h52 (by decide) (run_asg hf.ops.h52 _) (fun a htm => ?_)
   refine wp_ret ?_
   show bodyPost P fn (fun x wq => x = .returned (.slice (some ⟨g9, 0, none⟩) (n + m) G) ∧ wq = w3) .ret a w3
   refine ins_ret hf.res htm (v := .slice (some ⟨g9, 0, none⟩) (n + m) G) rfl ?_
   exact ⟨rfl, rfl⟩
  exact key _ (tm3 _ _ _ 92)
theorem ins_room (hf : InsFn P f t ti tb el fo fn r o tail) (hie : P.info? el = some ie) (hse : ie.size = size) (hm : 0 < m) (hn : n ≤ c) (hc : c < 2 ^ 63) (hnm : n + m < 2 ^ 63) (hi : i < n) (hroom : n + m ≤ c) {v1 v2 : Value} {w1 w2 : World} (hO : (callFunc fo #[.slice (some ⟨g2, 0, none⟩) m c2, .slice (some ⟨g, (i + m) * size, none⟩) (n + m - (i + m)) (c - (i + m))]).run P w = .ok (.value (.bool false)) w)
    (hB : ∀ ty, (Builtin.copy_ #[t, t] ty #[.slice (some ⟨g, (i + m) * size, none⟩) (n + m - (i + m)) (c - (i + m)), .slice (some ⟨g, i * size, none⟩) (n + m - i) (c - i)]).run P { w with drawn := w.drawn + 1 } = .ok v1 w1)
    (hC : ∀ ty, (Builtin.copy_ #[t, t] ty #[.slice (some ⟨g, i * size, none⟩) (n + m - i) (c - i), .slice (some ⟨g2, 0, none⟩) m c2]).run P w1 = .ok v2 w2)
    : Calls P f #[.slice (some ⟨g, 0, none⟩) n c, .int .i64 ((i : Nat) : Int), .slice (some ⟨g2, 0, none⟩) m c2] w fun x w' => x = .returned (.slice (some ⟨g, 0, none⟩) (n + m) c) ∧ w' = w2 := by
  refine calls_of_wp hf.pos hf.body ?_
  rw [hf.tmps]
  have key : ∀ a : Act, Tm a 95 (upd (upd (upd (fun _ => undef) 0 (.slice (some ⟨g, 0, none⟩) n c)) 1 (.int .i64 ((i : Nat) : Int))) 2 (.slice (some ⟨g2, 0, none⟩) m c2)) → (insCode r o tail).wp P (bodyPost P fn fun x w' => x = .returned (.slice (some ⟨g, 0, none⟩) (n + m) c) ∧ w' = w2) a w := by
   intro a htm
   unfold insCode
   refine wp_seq (wp_region ?_)
   rw [show List.range (#[o 0] : Array Oper).size = [0] from rfl]
   refine htm.step (v := .slice none 0 0) rfl hf.ops.h0 (by decide) (run_asg hf.ops.h0 _) (fun a htm => ?_)
   refine wp_seq (wp_region ?_)
   rw [show List.range (#[o 1, o 2, o 3] : Array Oper).size = [0, 1, 2] from rfl]
   refine htm.step (v := .slice (some ⟨g, 0, none⟩) n c) rfl hf.ops.h1 (by decide) (run_mv hf.ops.h1 _) (fun a htm => ?_)
   refine htm.step (v := .int .i64 ((i : Nat) : Int)) rfl hf.ops.h2 (by decide) (run_mv hf.ops.h2 _) (fun a htm => ?_)
   refine htm.step (v := .slice (if c = i then (some ⟨g, 0, none⟩) else ((some ⟨g, 0, none⟩) : Option Addr).map (·.add (i * size))) (n - i) (c - i)) rfl hf.ops.h3 (by decide) (run_from hf.ops.h3 hf.und hie hse rfl rfl (by omega) _) (fun a htm => ?_)
   refine wp_seq (wp_region ?_)
   rw [show List.range (#[o 4, o 5, o 6] : Array Oper).size = [0, 1, 2] from rfl]
   refine htm.step (v := .slice (some ⟨g2, 0, none⟩) m c2) rfl hf.ops.h4 (by decide) (run_mv hf.ops.h4 _) (fun a htm => ?_)
   refine htm.step (v := .int .i64 ((m : Nat) : Int)) rfl hf.ops.h5 (by decide) (run_len hf.ops.h5 hf.und rfl _) (fun a htm => ?_)
   refine htm.step (v := .int .i64 ((m : Nat) : Int)) rfl hf.ops.h6 (by decide) (run_asg hf.ops.h6 _) (fun a htm => ?_)
   refine wp_seq ?_
   refine wp_seq (wp_region ?_)
   rw [show List.range (#[o 7, o 8] : Array Oper).size = [0, 1] from rfl]
   refine htm.step (v := .int .i64 ((m : Nat) : Int)) rfl hf.ops.h7 (by decide) (run_mv hf.ops.h7 _) (fun a htm => ?_)
   refine htm.step (v := .bool (decide (((m : Nat) : Int) = ((0 : Nat) : Int)))) rfl hf.ops.h8 (by decide) (run_ieq hf.ops.h8 rfl rfl _) (fun a htm => ?_)
   refine htm.cond (b := false) (by show Value.bool (decide (((m : Nat) : Int) = ((0 : Nat) : Int))) = _; rw [decide_eq_false (by omega)]) ?_
   simp only [Bool.false_eq_true, if_false]
   refine wp_skip ?_
   refine wp_seq (wp_region ?_)
   rw [show List.range (#[o 11, o 12, o 13] : Array Oper).size = [0, 1, 2] from rfl]
   refine htm.step (v := .slice (some ⟨g, 0, none⟩) n c) rfl hf.ops.h11 (by decide) (run_mv hf.ops.h11 _) (fun a htm => ?_)
   refine htm.step (v := .int .i64 ((n : Nat) : Int)) rfl hf.ops.h12 (by decide) (run_len hf.ops.h12 hf.und rfl _) (fun a htm => ?_)
   refine htm.step (v := .int .i64 ((n : Nat) : Int)) rfl hf.ops.h13 (by decide) (run_asg hf.ops.h13 _) (fun a htm => ?_)
   refine wp_seq ?_
   refine wp_seq (wp_region ?_)
   rw [show List.range (#[o 14, o 15, o 16] : Array Oper).size = [0, 1, 2] from rfl]
   refine htm.step (v := .int .i64 ((i : Nat) : Int)) rfl hf.ops.h14 (by decide) (run_mv hf.ops.h14 _) (fun a htm => ?_)
   refine htm.step (v := .int .i64 ((n : Nat) : Int)) rfl hf.ops.h15 (by decide) (run_mv hf.ops.h15 _) (fun a htm => ?_)
   refine htm.step (v := .bool (decide (((i : Nat) : Int) = ((n : Nat) : Int)))) rfl hf.ops.h16 (by decide) (run_ieq hf.ops.h16 rfl rfl _) (fun a htm => ?_)
   refine htm.cond (b := false) (by show Value.bool (decide (((i : Nat) : Int) = ((n : Nat) : Int))) = _; rw [decide_eq_false (by omega)]) ?_
   simp only [Bool.false_eq_true, if_false]
   refine wp_skip ?_
   refine wp_seq ?_
   refine wp_seq (wp_region ?_)
   rw [show List.range (#[o 21, o 22, o 23, o 24, o 25, o 26] : Array Oper).size = [0, 1, 2, 3, 4, 5] from rfl]
   refine htm.step (v := .int .i64 ((n : Nat) : Int)) rfl hf.ops.h21 (by decide) (run_mv hf.ops.h21 _) (fun a htm => ?_)
   refine htm.step (v := .int .i64 ((m : Nat) : Int)) rfl hf.ops.h22 (by decide) (run_mv hf.ops.h22 _) (fun a htm => ?_)
   refine htm.step (v := .int .i64 ((n + m : Nat) : Int)) rfl hf.ops.h23 (by decide) (run_iadd hf.ops.h23 rfl rfl (by omega) _) (fun a htm => ?_)
   refine htm.step (v := .slice (some ⟨g, 0, none⟩) n c) rfl hf.ops.h24 (by decide) (run_mv hf.ops.h24 _) (fun a htm => ?_)
   refine htm.step (v := .int .i64 ((c : Nat) : Int)) rfl hf.ops.h25 (by decide) (run_cap hf.ops.h25 hf.und rfl _) (fun a htm => ?_)
   refine htm.step (v := .bool (decide (((c : Nat) : Int) < (((n + m) : Nat) : Int)))) rfl hf.ops.h26 (by decide) (run_igtr hf.ops.h26 rfl rfl _) (fun a htm => ?_)
   refine htm.cond (b := false) (by show Value.bool (decide (((c : Nat) : Int) < ((n + m : Nat) : Int))) = _; rw [decide_eq_false (by omega)]) ?_
   simp only [Bool.false_eq_true, if_false]
   refine wp_skip ?_
   refine wp_seq (wp_region ?_)
   rw [show List.range (#[o 53, o 54, o 55, o 56, o 57, o 58] : Array Oper).size = [0, 1, 2, 3, 4, 5] from rfl]
   refine htm.step (v := .slice (some ⟨g, 0, none⟩) n c) rfl hf.ops.h53 (by decide) (run_mv hf.ops.h53 _) (fun a htm => ?_)
   refine htm.step (v := .int .i64 ((n : Nat) : Int)) rfl hf.ops.h54 (by decide) (run_mv hf.ops.h54 _) (fun a htm => ?_)
   refine htm.step (v := .int .i64 ((m : Nat) : Int)) rfl hf.ops.h55 (by decide) (run_mv hf.ops.h55 _) (fun a htm => ?_)
   refine htm.step (v := .int .i64 ((n + m : Nat) : Int)) rfl hf.ops.h56 (by decide) (run_iadd hf.ops.h56 rfl rfl (by omega) _) (fun a htm => ?_)
   refine htm.step (v := .slice (some ⟨g, 0, none⟩) (n + m) c) rfl hf.ops.h57 (by decide) (run_upto hf.ops.h57 hf.und hie hse rfl rfl (by omega) _) (fun a htm => ?_)
   refine htm.step (v := .slice (some ⟨g, 0, none⟩) (n + m) c) rfl hf.ops.h58 (by decide) (run_asg hf.ops.h58 _) (fun a htm => ?_)
   refine wp_seq ?_
   refine wp_seq (wp_region ?_)
   rw [show List.range (#[o 59, o 60, o 61, o 62, o 63, o 64, o 65, o 66] : Array Oper).size = [0, 1, 2, 3, 4, 5, 6, 7] from rfl]
   refine htm.step (v := .slice (some ⟨g2, 0, none⟩) m c2) rfl hf.ops.h59 (by decide) (run_mv hf.ops.h59 _) (fun a htm => ?_)
   refine htm.step (v := .slice (some ⟨g, 0, none⟩) (n + m) c) rfl hf.ops.h60 (by decide) (run_mv hf.ops.h60 _) (fun a htm => ?_)
   refine htm.step (v := .int .i64 ((i : Nat) : Int)) rfl hf.ops.h61 (by decide) (run_mv hf.ops.h61 _) (fun a htm => ?_)
   refine htm.step (v := .int .i64 ((m : Nat) : Int)) rfl hf.ops.h62 (by decide) (run_mv hf.ops.h62 _) (fun a htm => ?_)
   refine htm.step (v := .int .i64 ((i + m : Nat) : Int)) rfl hf.ops.h63 (by decide) (run_iadd hf.ops.h63 rfl rfl (by omega) _) (fun a htm => ?_)
   refine htm.step (v := .slice (some ⟨g, (i + m) * size, none⟩) (n + m - (i + m)) (c - (i + m))) rfl hf.ops.h64 (by decide) (run_fromA hf.ops.h64 hf.und hie hse rfl rfl (by omega) (by omega) _) (fun a htm => ?_)
   refine htm.step (v := .bool false) rfl hf.ops.h65 (by decide) (run_ext hf.ops.h65 rfl rfl rfl hO) (fun a htm => ?_)
   refine htm.step (v := .bool (!false)) rfl hf.ops.h66 (by decide) (run_not hf.ops.h66 rfl _) (fun a htm => ?_)
   refine htm.cond (b := true) rfl ?_
   simp only [if_true]
   refine wp_seq (wp_draw hf.mix hf.ops.d15 (k := 8) rfl fun hord => ?_)
   refine htm.draw (v := .slice (some ⟨g, 0, none⟩) (n + m) c) rfl hf.ops.h67 (by decide) hord (fun w => run_mv hf.ops.h67 _) (fun a htm hord => ?_)
   refine htm.draw (v := .int .i64 ((i : Nat) : Int)) rfl hf.ops.h68 (by decide) hord (fun w => run_mv hf.ops.h68 _) (fun a htm hord => ?_)
   refine htm.draw (v := .int .i64 ((m : Nat) : Int)) rfl hf.ops.h69 (by decide) hord (fun w => run_mv hf.ops.h69 _) (fun a htm hord => ?_)
   refine htm.draw (v := .int .i64 ((i + m : Nat) : Int)) rfl hf.ops.h70 (by decide) hord (fun w => run_iadd hf.ops.h70 rfl rfl (by omega) _) (fun a htm hord => ?_)
   refine htm.draw (v := .slice (some ⟨g, (i + m) * size, none⟩) (n + m - (i + m)) (c - (i + m))) rfl hf.ops.h71 (by decide) hord (fun w => run_fromA hf.ops.h71 hf.und hie hse rfl rfl (by omega) (by omega) _) (fun a htm hord => ?_)
   refine htm.draw (v := .slice (some ⟨g, 0, none⟩) (n + m) c) rfl hf.ops.h72 (by decide) hord (fun w => run_mv hf.ops.h72 _) (fun a htm hord => ?_)
   refine htm.draw (v := .int .i64 ((i : Nat) : Int)) rfl hf.ops.h73 (by decide) hord (fun w => run_mv hf.ops.h73 _) (fun a htm hord => ?_)
   refine htm.draw (v := .slice (some ⟨g, i * size, none⟩) (n + m - i) (c - i)) rfl hf.ops.h74 (by decide) hord (fun w => run_fromA hf.ops.h74 hf.und hie hse rfl rfl (by omega) (by omega) _) (fun a htm hord => ?_)
   refine htm.last (v := v1) rfl hf.ops.h75 (by decide) hord (run_cpy2 hf.ops.h75 rfl rfl (hB _)) (fun a htm => ?_)
   refine wp_seq (wp_region ?_)
   rw [show List.range (#[o 76, o 77, o 78, o 79, o 80] : Array Oper).size = [0, 1, 2, 3, 4] from rfl]
   refine htm.step (v := .slice (some ⟨g, 0, none⟩) (n + m) c) rfl hf.ops.h76 (by decide) (run_mv hf.ops.h76 _) (fun a htm => ?_)
   refine htm.step (v := .int .i64 ((i : Nat) : Int)) rfl hf.ops.h77 (by decide) (run_mv hf.ops.h77 _) (fun a htm => ?_)
   refine htm.step (v := .slice (some ⟨g, i * size, none⟩) (n + m - i) (c - i)) rfl hf.ops.h78 (by decide) (run_fromA hf.ops.h78 hf.und hie hse rfl rfl (by omega) (by omega) _) (fun a htm => ?_)
   refine htm.step (v := .slice (some ⟨g2, 0, none⟩) m c2) rfl hf.ops.h79 (by decide) (run_mv hf.ops.h79 _) (fun a htm => ?_)
   refine htm.step (v := v2) rfl hf.ops.h80 (by decide) (run_cpy2 hf.ops.h80 rfl rfl (hC _)) (fun a htm => ?_)
   refine wp_seq (wp_region ?_)
   rw [show List.range (#[o 81, o 82] : Array Oper).size = [0, 1] from rfl]
   refine htm.step (v := .slice (some ⟨g, 0, none⟩) (n + m) c) rfl hf.ops.h81 (by decide) (run_mv hf.ops.h81 _) (fun a htm => ?_)
   refine htm.step (v := .slice (some ⟨g, 0, none⟩) (n + m) c) rfl hf.ops.h82 (by decide) (run_asg hf.ops.h82 _) (fun a htm => ?_)
   refine wp_ret ?_
   show bodyPost P fn (fun x wq => x = .returned (.slice (some ⟨g, 0, none⟩) (n + m) c) ∧ wq = w2) .ret a w2
   refine ins_ret hf.res htm (v := .slice (some ⟨g, 0, none⟩) (n + m) c) rfl ?_
   exact ⟨rfl, rfl⟩
  exact key _ (tm3 _ _ _ 92)
end
end Dn
/-
  What slices.Insert does to a slice of its own. Conditions: none.
-/
set_option linter.unusedSimpArgs false
set_option linter.unusedVariables false
namespace Dn
open Go
section
variable {key : Nat → Nat} {φ : Ph} {size : Nat}
theorem ElemsRep.take {xs : List MV} : ∀ {cs : List Value} (i : Nat), ElemsRep key φ size cs xs → ElemsRep key φ size (cs.take (i * size)) (xs.take i) := by
  induction xs with
  | nil => intro cs i h; cases h; simp [ElemsRep]
  | cons x xs ih =>
    intro cs i h
    obtain ⟨v, q, rfl, h1, h2, h3⟩ := h
    cases i with
    | zero => simp [ElemsRep]
    | succ i =>
      refine ⟨v, q.take (i * size), ?_, h1, h2, ih i h3⟩
      rw [Nat.add_mul, Nat.one_mul, Nat.add_comm, List.take_append, h1]
      congr 1
      · exact List.take_of_length_le (by omega)
      · congr 1; omega
theorem ElemsRep.drop {xs : List MV} : ∀ {cs : List Value} (i : Nat), ElemsRep key φ size cs xs → ElemsRep key φ size (cs.drop (i * size)) (xs.drop i) := by
  induction xs with
  | nil => intro cs i h; cases h; simp [ElemsRep]
  | cons x xs ih =>
    intro cs i h
    cases i with
    | zero => simpa using h
    | succ i =>
      obtain ⟨v, q, rfl, h1, h2, h3⟩ := h
      have := ih i h3
      rw [Nat.add_mul, Nat.one_mul, Nat.add_comm, List.drop_append, h1, List.drop_of_length_le (by omega), List.nil_append, Nat.add_sub_cancel_left]
      simpa using this
end
section
variable {P : Program} {c : Ctx} {f : Nat} {W W' : World} {φ : Ph} {Z : Nat → Prop} {v0 v' : Value}
theorem fin_own {ty : Nat} {E : TI} {n : Nat} {cells : List Value} {rs : List MV} (hz : ∀ b, W.heap.size ≤ b → Z b) (himm : Imm φ W) (hE : c.ti ty = some E) (hEc : E.comps = []) (hfty : c.fty (c.key f) = ty)
    (hold : ∀ b, b < W.heap.size → some b ≠ v0.ownBlock → W'.heap[b]? = W.heap[b]?) (hsz : W.heap.size ≤ W'.heap.size) (hrest : Rest W W')
    (hv0 : ∀ b, v0.ownBlock = some b → Z b ∧ ∀ off, φ b off = none) (hown : W'.ownsRow 0 ty E.size v' n cells) (hn : rs.length = n) (hels : ElemsRep c.key φ E.size cells rs)
    (hplace : ∀ b, v'.ownBlock = some b → v0.ownBlock = some b ∨ W.heap.size ≤ b) : ∃ φ', Trans Z φ W φ' W' ∧ Imm φ' W' ∧ ResRep c Z φ' W' (c.key f) v' (.fresh rs) := by
  refine ⟨φ, ⟨.refl _, ?_, fun _ _ _ => rfl, hsz, hrest⟩, ?_, ?_⟩
  · intro b hb hlt
    exact hold b hlt (fun he => hb (hv0 b he.symm).1)
  · intro b off u hbo
    have h1 := himm b off u hbo
    have hlt := World.block_lt_of_cell? W _ h1
    rw [World.cell?_of_block (hold b hlt (fun he => by rw [(hv0 b he.symm).2 off] at hbo; cases hbo))]
    exact h1
  · show FamOK c (Zone.plain Z) (env0 c.key φ) W' v' ⟨c.fty (c.key f), false, rs⟩
    rw [hfty]
    refine ⟨E, cells, hE, hEc, by rw [hn]; exact hown, hels, fun blk hb => ?_⟩
    rcases hplace blk hb with h | h
    · exact ⟨(hv0 blk h).1, fun off u hu => (by have hu : φ blk off = some u := hu; rw [(hv0 blk h).2 off] at hu; cases hu), fun hc => hc.elim⟩
    · refine ⟨hz blk h, fun off u hu => ?_, fun hc => hc.elim⟩
      have := World.block_lt_of_cell? W _ (himm _ _ _ hu)
      exact absurd this (by show ¬ blk < W.heap.size; omega)

/-- the row that is left -/
theorem row_mid {A cur : List Value} {cells news : List Value} {p q r : Nat} (hA : A.length = cur.length) (hp : p + news.length = q) (hc : cells.length = r) (hpr : p ≤ r) (hfit : r + news.length ≤ cur.length)
    (h1 : A.take p = cells.take p) (h2 : (A.drop q).take (r - p) = cells.drop p) : (A.take p ++ news ++ A.drop q).take (r + news.length) = cells.take p ++ news ++ cells.drop p := by
  have hl : (A.take p).length = p := by rw [List.length_take]; omega
  rw [List.take_append, List.length_append, hl, hp, List.take_of_length_le (by rw [List.length_append, hl]; omega), h1]
  congr 1
  rw [show r + news.length - q = r - p by omega]
  exact h2

theorem insert_ok {t ti tb el fo : Nat} {fn : Func} {r : Nat → Nat} {o : Nat → Oper} {tail : Code} {I E : TI} {xs ys : List MV} {i : Nat} (hf : InsFn P f t ti tb el fo fn r o tail) (hT : TIok P c.ti) (hI : c.tv t = some I) (hL : I.isL = true) (hE : c.tv I.elem = some E) (hb1 : 1 ≤ E.bytes)
    (hel : el = I.elem) (hti : P.underlying ti = some (.int .i64)) (hfty : c.fty (c.key f) = I.elem) (hg : c.gives (c.key f) = true)
    (hov : ∀ args w, (callFunc fo args).run P w = ((Extern.SlicesOverlaps.overlaps #[t, t] #[tb] args).run P w).andThen fun v w' => .ok (.value v) w')
    (hi : i ≤ xs.length) (hys : ys ≠ []) (hlim : (xs.length + ys.length) * E.bytes ≤ 2 ^ 46) : Sound1 P c f [.fresh xs, .i .i64 i, .fresh ys] (.fresh (xs.take i ++ ys ++ xs.drop i)) := by
  subst hel
  obtain ⟨hIt, hIc⟩ := tv_some hI
  obtain ⟨hEi, hEc⟩ := tv_some hE
  obtain ⟨hu, E2, hE2, _, hpos⟩ := TI.isL_of (hT t I hIt) hL
  rw [hEi] at hE2
  cases hE2
  obtain ⟨ie, z, hie, hse, hby, hz0, hzs⟩ := zero_size (hT _ E hEi) hEc
  intro φ W Z vs hz hargs himm
  simp only [ArgsIn, hg, if_true] at hargs
  obtain ⟨v0, v1, v2, xs', m1, ys', rfl, hms, F0, A1, F2, hne⟩ := hargs.resolve_right (by
    rintro (⟨_, _, _, _, _, m2, _, h1, h2, _⟩ | ⟨pos, _, _, _, _, _, _, h1, _⟩)
    · simp only [List.cons.injEq, and_true] at h1
      rw [← h1.2.2] at h2; simp [MV.one] at h2
    · rcases pos with _ | _ | _ | pos <;> simp at h1)
  simp only [List.cons.injEq, MV.fresh.injEq, and_true] at hms
  obtain ⟨rfl, rfl, rfl⟩ := hms
  have hv1 : v1 = .int .i64 (i : Int) := by
    obtain ⟨_, h⟩ := A1
    generalize hvs : [v1] = l at h
    cases h; simpa using hvs
  subst hv1
  rw [hfty] at F0 F2
  obtain ⟨I0, cells, hI0, _, hown0, hels0, hblk0⟩ := F0
  have hI0 : c.ti I.elem = some I0 := hI0
  rw [hEi] at hI0
  cases hI0
  obtain ⟨I2, news, hI2, _, hown2, hels2, hblk2⟩ := F2
  have hI2 : c.ti I.elem = some I2 := hI2
  rw [hEi] at hI2
  cases hI2
  have hown0 : W.ownsRow 0 I.elem E.size v0 xs.length cells := hown0
  have hown2 : W.ownsRow 0 I.elem E.size v2 ys.length news := hown2
  have hels0 : ElemsRep c.key φ E.size cells xs := hels0
  have hels2 : ElemsRep c.key φ E.size news ys := hels2
  have hv0 : ∀ b, v0.ownBlock = some b → Z b ∧ ∀ off, φ b off = none := by
    intro b hb
    refine ⟨(hblk0 b hb).1, fun off => ?_⟩
    cases h : φ b off with
    | none => rfl
    | some u => have := ((hblk0 b hb).2.1 off u h).1; cases this
  have hm : 0 < ys.length := List.length_pos_iff.2 hys
  have hnl : news.length = ys.length * E.size := hels2.length
  have hcl : cells.length = xs.length * E.size := hels0.length
  have hlen : xs.length + ys.length ≤ 2 ^ 46 := Nat.le_trans (Nat.le_mul_of_pos_right _ hb1) hlim
  obtain ⟨g2, c2, cur2, rfl, hg2, hmc2, hc2, hs2, htk2⟩ : ∃ g2 c2 cur2, v2 = .slice (some ⟨g2, 0, none⟩) ys.length c2 ∧ W.heap[g2]? = some (.cells cur2 I.elem (0, 0)) ∧ ys.length ≤ c2 ∧ c2 ≤ maxLen ∧ cur2.size = c2 * E.size ∧ cur2.toList.take (ys.length * E.size) = news := by
    rcases hown2.2 with ⟨_, h0⟩ | ⟨g2, c2, cur2, h1, _, h3, h4, h5, h6, h7⟩
    · omega
    · exact ⟨g2, c2, cur2, h1, h3, h4, h5, h6, h7⟩
  have hg2l := lt_of_heap hg2
  have hsrc2 : ∀ {w : World}, (w.heap[g2]? = W.heap[g2]?) → ∀ (j : Nat) (u : Value), news[j]? = some u → w.cell? ((⟨g2, 0, none⟩ : Addr).add j) = some u := by
    intro w hw j u hj
    have := hown2.cells (g := g2) rfl j u hj
    rw [Addr.add_mid] at this ⊢
    rw [World.cell?_of_block hw]; exact this
  have hcells : ∀ g, v0.ownBlock = some g → ∀ {w : World}, (w.heap[g]? = W.heap[g]?) → ∀ (j : Nat) (u : Value), cells[j]? = some u → w.cell? ((⟨g, 0, none⟩ : Addr).add j) = some u := by
    intro g hg w hw j u hj
    have := hown0.cells (g := g) hg j u hj
    rw [Addr.add_mid] at this ⊢
    rw [World.cell?_of_block hw]; exact this
  have hrun : (callFunc f [v0, .int .i64 (i : Int), .slice (some ⟨g2, 0, none⟩) ys.length c2].toArray).run P W = .ok (.enter f #[v0, .int .i64 (i : Int), .slice (some ⟨g2, 0, none⟩) ys.length c2]) W := by
    have hn2 : ¬ fn.name = "runtime.NumGoroutine" := by simpa using hf.name
    simp [callFunc, hf.pos, hn2, hf.body]
  unfold CallOK
  rw [hrun]
  have hrl : (xs.take i ++ ys ++ xs.drop i).length = xs.length + ys.length := by simp; omega
  have hrels : ElemsRep c.key φ E.size (cells.take (i * E.size) ++ news ++ cells.drop (i * E.size)) (xs.take i ++ ys ++ xs.drop i) := ((hels0.take i).append hels2).append (hels0.drop i)
  by_cases hin : i = xs.length
  · -- at the end
    have hsrc : Src (env0 c.key φ) W E.size (.slice (some ⟨g2, 0, none⟩) ys.length c2) ys news := ⟨hels2, _, _, rfl, by simp, fun x hx j u hj => by cases hx; exact hsrc2 rfl j u hj⟩
    have hres : cells.take (i * E.size) ++ news ++ cells.drop (i * E.size) = cells ++ news := by
      rw [hin, ← hcl, List.take_length, List.drop_length, List.append_nil]
    rw [hres] at hrels
    have fin : ∀ v' W', Appd W W' I.elem E.size v0 v' xs.length ys.length cells news → ∃ φ', Trans Z φ W φ' W' ∧ Imm φ' W' ∧ ResRep c Z φ' W' (c.key f) v' (.fresh (xs.take i ++ ys ++ xs.drop i)) := by
      intro v' W' hap
      refine fin_own (v0 := v0) hz himm hEi hEc hfty hap.old hap.size hap.rest hv0 hap.own hrl hrels ?_
      intro b hb
      rcases hap.place with h | h
      · left; rw [← h]; exact hb
      · right; rw [h] at hb; cases hb; exact Nat.le_refl _
    obtain ⟨v', W', hr, hap⟩ := append_run (P := P) (c := c) (ty := 0) hu hEi hEc hpos hT hb1 hown0 (hsrc.apx hu) hlim
    have hr' : ∀ ty, (Builtin.append_ #[t, t] ty #[v0, .slice (some ⟨g2, 0, none⟩) ys.length c2]).run P W = .ok v' W' := fun ty => hr
    have hv0c : ∃ ad c0, v0 = .slice ad xs.length c0 ∧ xs.length ≤ c0 ∧ c0 ≤ maxLen := by
      rcases hown0.2 with ⟨h1, h0⟩ | ⟨g, c0, cur, h1, _, h3, h4, h5, _⟩
      · exact ⟨none, 0, by rw [h1, h0], by omega, by omega⟩
      · exact ⟨_, c0, h1, h4, h5⟩
    obtain ⟨ad, c0, rfl, hnc, hcm⟩ := hv0c
    refine (ins_end hf hie hse hm hnc (by unfold maxLen at hcm; omega) (by omega) hin hr').mono ?_
    rintro x w'' ⟨rfl, rfl⟩
    exact ⟨_, rfl, fin _ _ hap⟩
  · have hin : i < xs.length := by omega
    obtain ⟨g, c0, cur, rfl, hgc, hnc, hcm, hcs, htk⟩ : ∃ g c0 cur, v0 = .slice (some ⟨g, 0, none⟩) xs.length c0 ∧ W.heap[g]? = some (.cells cur I.elem (0, 0)) ∧ xs.length ≤ c0 ∧ c0 ≤ maxLen ∧ cur.size = c0 * E.size ∧ cur.toList.take (xs.length * E.size) = cells := by
      rcases hown0.2 with ⟨_, h0⟩ | ⟨g, c0, cur, h1, _, h3, h4, h5, h6, h7⟩
      · omega
      · exact ⟨g, c0, cur, h1, h3, h4, h5, h6, h7⟩
    have hgl := lt_of_heap hgc
    have hgg : g ≠ g2 := fun h => hne g rfl (by rw [h]; rfl)
    have hi1 : i * E.size ≤ xs.length * E.size := Nat.mul_le_mul_right _ hi
    have him : (i + ys.length) * E.size = i * E.size + news.length := by rw [Nat.add_mul, hnl]
    have hnm : (xs.length + ys.length) * E.size = xs.length * E.size + news.length := by rw [Nat.add_mul, hnl]
    have hdl : (cells.drop (i * E.size)).length = (xs.length - i) * E.size := by rw [List.length_drop, hcl, Nat.sub_mul]
    have hdl2 : (xs.length - i) * E.size = xs.length * E.size - i * E.size := Nat.sub_mul _ _ _
    have hsrcD : ∀ {w : World}, (w.heap[g]? = W.heap[g]?) → ∀ (j : Nat) (u : Value), (cells.drop (i * E.size))[j]? = some u → w.cell? ((⟨g, i * E.size, none⟩ : Addr).add j) = some u := by
      intro w hw j u hj
      rw [List.getElem?_drop] at hj
      have := hcells g rfl hw _ u hj
      rw [Addr.add_mid] at this ⊢
      rwa [Nat.zero_add] at this
    have ho1 : ∀ u ∈ cells.drop (i * E.size), u.oneCell' = true := fun u hu => hels0.cells1 u (List.mem_of_mem_drop hu)
    have hdrew : Rest W { W with drawn := W.drawn + 1 } := ⟨rfl, rfl, rfl, fun _ => rfl⟩
    by_cases hroom : c0 < xs.length + ys.length
    · have hk : i + (xs.length + ys.length - i) = xs.length + ys.length := by omega
      obtain ⟨G, hG⟩ : ∃ G, G = grownCap W (xs.length + ys.length) c0 I.elem := ⟨_, rfl⟩
      have hGn : xs.length + ys.length ≤ G := by rw [hG]; exact grownCap_ge W _ _ _
      have hGm : G ≤ maxLen := by rw [hG]; exact grownCap_le_maxLen W _ _ _ (by unfold maxLen; omega)
      obtain ⟨ROW, hROW⟩ : ∃ ROW : Array Value, ROW = (cells.take (i * E.size)).toArray ++ Builtin.zeroCells z.cells (xs.length + ys.length - i) ++ Builtin.zeroCells z.cells (G - (xs.length + ys.length)) := ⟨_, rfl⟩
      have hRl : ROW.size = G * E.size := by
        rw [hROW]
        simp only [Array.size_append, List.size_toArray, List.length_take, Builtin.zeroCells, Array.size_map, Array.size_range, hzs]
        rw [Nat.min_eq_left (by rw [hcl]; exact hi1), ← Nat.add_mul, ← Nat.add_mul]
        congr 1; omega
      have hRt : ROW.toList.take (i * E.size) = cells.take (i * E.size) := by
        rw [hROW]
        simp only [Array.toList_append, List.append_assoc]
        have hl : (cells.take (i * E.size)).length = i * E.size := by rw [List.length_take, hcl]; exact Nat.min_eq_left hi1
        rw [List.take_append_of_le_length (by omega), List.take_of_length_le (by omega)]
      have hA : ∀ ty, (Builtin.append_ #[t, ti] ty #[.slice (some ⟨g, 0, none⟩) i c0, .int .i64 ((xs.length + ys.length - i : Nat) : Int)]).run P W = .ok (.slice (some ⟨W.heap.size, 0, none⟩) (xs.length + ys.length) G) (W.drew.alloc (.cells ROW I.elem)) := fun ty => by
        have hold : (Builtin.firstCells ie.size i (.slice (some ⟨g, 0, none⟩) i c0)).run P W.drew = .ok (cells.take (i * E.size)).toArray W.drew := by
          refine run_firstCells_some W.drew ie.size i ⟨g, 0, none⟩ i c0 _ (by rw [hse, List.length_take, hcl]; exact Nat.min_eq_left hi1) (fun j v hj => ?_)
          rw [List.getElem?_take] at hj
          split at hj
          · exact hcells g rfl rfl j v hj
          · cases hj
        have h := Lib.run_append_grow_zeros W t ti ty I.elem ie z .i64 .i64 hu hti hie hz0 (some ⟨g, 0, none⟩) i c0 (cells.take (i * E.size)) hold (xs.length + ys.length - i) (by omega) (by rw [hse]; exact hpos) (by omega) (by omega)
          (by rw [hby]; exact Nat.le_trans (Nat.mul_le_mul_right _ (by omega : xs.length + ys.length - i ≤ xs.length + ys.length)) (Nat.le_trans hlim (by omega))) (by rw [hby, hk]; exact growslice_fits hroom (Nat.le_trans hlim (by omega)))
        rw [hk, ← hG, ← hROW] at h
        exact h
      have hg9 : (W.drew.alloc (.cells ROW I.elem)).heap[W.heap.size]? = some (.cells ROW I.elem (0, 0)) := heapNew W.drew _
      have hal : ∀ b, b < W.heap.size → (W.drew.alloc (.cells ROW I.elem)).heap[b]? = W.heap[b]? := fun b hb => heapOld W.drew _ b hb
      have hnG : (xs.length + ys.length) * E.size ≤ ROW.size := by rw [hRl]; exact Nat.mul_le_mul_right _ hGn
      obtain ⟨RA, hRA⟩ : ∃ RA : List Value, RA = ROW.toList.take (i * E.size) ++ news ++ ROW.toList.drop (i * E.size + news.length) := ⟨_, rfl⟩
      have hRAl : RA.length = ROW.size := by
        rw [hRA]
        simp only [List.length_append, List.length_take, List.length_drop, Array.length_toList]
        omega
      have hB : ∀ ty, (Builtin.copy_ #[t, t] ty #[.slice (some ⟨W.heap.size, i * E.size, none⟩) (xs.length + ys.length - i) (G - i), .slice (some ⟨g2, 0, none⟩) ys.length c2]).run P (W.drew.alloc (.cells ROW I.elem)) =
          .ok (goInt ((ys.length : Nat) : Int)) (World.setRow (W.drew.alloc (.cells ROW I.elem)) W.heap.size RA.toArray) := fun ty => by
        rw [hRA]
        exact run_copy_wide (size := E.size) hu hie hse hg9 (by simp only [Nat.min_def]; split <;> omega) hnl (hsrc2 (hal g2 hg2l)) (by omega) hels2.cells1
      have hg9B := setRow_heap (W.drew.alloc (.cells ROW I.elem)) W.heap.size ROW RA.toArray I.elem (0, 0) hg9
      obtain ⟨W2, hW2⟩ : ∃ W2, W2 = World.setRow (W.drew.alloc (.cells ROW I.elem)) W.heap.size RA.toArray := ⟨_, rfl⟩
      have hoth : ∀ b, b < W.heap.size → W2.heap[b]? = W.heap[b]? := fun b hb => by rw [hW2, setRow_other _ _ _ _ (by omega)]; exact hal b hb
      have hrest2 : Rest W W2 := by
        rw [hW2]
        exact (show Rest W W.drew from ⟨rfl, rfl, rfl, fun _ => rfl⟩).trans ((Rest.alloc W.drew ROW I.elem).trans (Rest.setRow _ _ _))
      have hsz2 : W2.heap.size = W.heap.size + 1 := by rw [hW2, setRow_size]; exact Array.size_push _
      rw [← hW2] at hB hg9B
      have hC := fun ty => run_copy_wide (P := P) (dT := t) (sT := t) (ty := ty) (size := E.size) (dLen := xs.length + ys.length - (i + ys.length)) (dCap := G - (i + ys.length)) (sLen := xs.length - i) (sCap := c0 - i) (k := xs.length - i) (o := (i + ys.length) * E.size) (a := ⟨g, i * E.size, none⟩) (w := { W2 with drawn := W2.drawn + 1 }) hu hie hse hg9B (by simp only [Nat.min_def]; split <;> omega) hdl
        (hsrcD (hoth g hgl)) (by simp only [List.size_toArray]; rw [hRAl, him, hdl]; omega) ho1
      refine (ins_grow hf hie hse hm hnc (by unfold maxLen at hcm; omega) (by omega) hin hroom hGn hA hB hC).mono ?_
      rintro x w'' ⟨rfl, rfl⟩
      refine ⟨_, rfl, ?_⟩
      refine fin_own (v0 := .slice (some ⟨g, 0, none⟩) xs.length c0) (n := xs.length + ys.length) (cells := cells.take (i * E.size) ++ news ++ cells.drop (i * E.size)) hz himm hEi hEc hfty ?_ ?_ ?_ hv0 ?_ hrl hrels (fun b hb => .inr (by cases hb; exact Nat.le_refl _))
      · intro b hb hne
        rw [setRow_other _ _ _ _ (by omega)]
        exact hoth b hb
      · rw [setRow_size]; show W.heap.size ≤ W2.heap.size; omega
      · exact hrest2.trans ((show Rest W2 { W2 with drawn := W2.drawn + 1 } from ⟨rfl, rfl, rfl, fun _ => rfl⟩).trans (Rest.setRow _ _ _))
      · refine ⟨by rw [hrels.length, hrl], .inr ⟨W.heap.size, G, _, rfl, Nat.zero_le _, setRow_heap { W2 with drawn := W2.drawn + 1 } W.heap.size RA.toArray _ I.elem (0, 0) hg9B, hGn, hGm, ?_, ?_⟩⟩
        · simp only [List.size_toArray, List.length_append, List.length_take, List.length_drop]
          rw [hRAl, ← hRl]
          omega
        · have hRAt : RA.take ((i + ys.length) * E.size) = cells.take (i * E.size) ++ news := by
            have hl : (ROW.toList.take (i * E.size) ++ news).length = (i + ys.length) * E.size := by rw [List.length_append, List.length_take, Array.length_toList, him]; omega
            rw [hRA, List.take_append_of_le_length (by omega), List.take_of_length_le (by omega), hRt]
          rw [hRAt]
          have hl2 : (cells.take (i * E.size) ++ news ++ cells.drop (i * E.size)).length = (xs.length + ys.length) * E.size := by rw [hrels.length, hrl]
          rw [← hl2]
          exact List.take_left
    · have hroom : xs.length + ys.length ≤ c0 := by omega
      have hcz : cur.toList.length = cur.size := Array.length_toList
      have hfit : (xs.length + ys.length) * E.size ≤ cur.size := by rw [hcs]; exact Nat.mul_le_mul_right _ hroom
      have hO : (callFunc fo #[.slice (some ⟨g2, 0, none⟩) ys.length c2, .slice (some ⟨g, (i + ys.length) * E.size, none⟩) (xs.length + ys.length - (i + ys.length)) (c0 - (i + ys.length))]).run P W = .ok (.value (.bool false)) W := by
        rw [hov, Lib.run_overlaps_apart W t tb I.elem hu E.size (fun w => by simp [Go.sizeOf, typeInfo, hie, hse]) ⟨g2, 0, none⟩ ⟨g, (i + ys.length) * E.size, none⟩ _ _ _ _ (Ne.symm hgg) I.elem I.elem cur2.size cur.size (by simp [World.shape?, hg2]) (by simp [World.shape?, hgc])
          (by rw [hcs]; exact Nat.ne_of_gt (Nat.mul_pos (by omega) hpos)) (by simp [World.frozen?, hg2]) (by simp [World.frozen?, hg2])]
        rfl
      let R1 : List Value := cur.toList.take ((i + ys.length) * E.size) ++ cells.drop (i * E.size) ++ cur.toList.drop ((i + ys.length) * E.size + (cells.drop (i * E.size)).length)
      have hR1 : R1.length = cur.size := by
        simp only [R1, List.length_append, List.length_take, List.length_drop, Array.length_toList]
        rw [hdl] at *
        omega
      have hB : ∀ ty, (Builtin.copy_ #[t, t] ty #[.slice (some ⟨g, (i + ys.length) * E.size, none⟩) (xs.length + ys.length - (i + ys.length)) (c0 - (i + ys.length)), .slice (some ⟨g, i * E.size, none⟩) (xs.length + ys.length - i) (c0 - i)]).run P { W with drawn := W.drawn + 1 } =
          .ok (goInt ((xs.length - i : Nat) : Int)) (World.setRow { W with drawn := W.drawn + 1 } g R1.toArray) := fun ty =>
        run_copy_wide (size := E.size) hu hie hse (w := { W with drawn := W.drawn + 1 }) hgc (by simp only [Nat.min_def]; split <;> omega) hdl (hsrcD rfl) (by rw [him, hdl]; omega) ho1
      have hgc1 : (World.setRow { W with drawn := W.drawn + 1 } g R1.toArray).heap[g]? = some (.cells R1.toArray I.elem (0, 0)) := setRow_heap { W with drawn := W.drawn + 1 } g cur R1.toArray I.elem (0, 0) hgc
      have hoth : ∀ b, b ≠ g → (World.setRow { W with drawn := W.drawn + 1 } g R1.toArray).heap[b]? = W.heap[b]? := fun b hb => setRow_other { W with drawn := W.drawn + 1 } g b R1.toArray hb
      have hC := fun ty => run_copy_wide (P := P) (dT := t) (sT := t) (ty := ty) (size := E.size) (dLen := xs.length + ys.length - i) (dCap := c0 - i) (sLen := ys.length) (sCap := c2) (k := ys.length) (o := i * E.size) (a := ⟨g2, 0, none⟩) hu hie hse hgc1 (by simp only [Nat.min_def]; split <;> omega) hnl
        (hsrc2 (hoth g2 (Ne.symm hgg))) (by simp only [List.size_toArray]; rw [hR1]; omega) hels2.cells1
      refine (ins_room hf hie hse hm hnc (by unfold maxLen at hcm; omega) (by omega) hin hroom hO hB hC).mono ?_
      rintro x w'' ⟨rfl, rfl⟩
      refine ⟨_, rfl, ?_⟩
      rw [setRow_setRow]
      have hrest : Rest W (World.setRow { W with drawn := W.drawn + 1 } g (R1.toArray.toList.take (i * E.size) ++ news ++ R1.toArray.toList.drop (i * E.size + news.length)).toArray) := hdrew.trans (Rest.setRow _ _ _)
      refine fin_own (v0 := .slice (some ⟨g, 0, none⟩) xs.length c0) (n := xs.length + ys.length) (cells := cells.take (i * E.size) ++ news ++ cells.drop (i * E.size)) hz himm hEi hEc hfty ?_ (by simp) hrest hv0 ?_ hrl hrels (fun b hb => .inl hb)
      · intro b hb hne
        refine setRow_other { W with drawn := W.drawn + 1 } g b _ (fun h => hne ?_)
        rw [h]; rfl
      · refine ⟨by rw [hrels.length, hrl], .inr ⟨g, c0, _, rfl, Nat.zero_le _, setRow_heap { W with drawn := W.drawn + 1 } g cur _ I.elem (0, 0) hgc, hroom, hcm, ?_, ?_⟩⟩
        · simp only [List.size_toArray, List.length_append, List.length_take, List.length_drop]
          rw [hR1, ← hcs]
          omega
        · rw [hnm]
          refine row_mid (cur := cur.toList) (r := xs.length * E.size) (by simpa using hR1) rfl hcl hi1 (by simp only [Array.length_toList]; omega) ?_ ?_
          · show R1.take (i * E.size) = _
            rw [← htk, List.take_take, Nat.min_eq_left hi1]
            simp only [R1]
            rw [List.append_assoc, List.take_append_of_le_length (by rw [List.length_take, hcz]; omega), List.take_take, Nat.min_eq_left (by omega)]
          · show (R1.drop (i * E.size + news.length)).take _ = _
            simp only [R1]
            have hl : (cur.toList.take ((i + ys.length) * E.size)).length = i * E.size + news.length := by rw [List.length_take, hcz]; omega
            rw [List.append_assoc, ← hl, List.drop_left, List.take_append_of_le_length (by omega), List.take_of_length_le (by omega)]
end
end Dn
/-
  slices.Delete of the library, walked. Conditions: none.
-/
set_option linter.unusedSimpArgs false
set_option linter.unusedVariables false
namespace Dn
open Go
/-- an operation that yields nothing -/
structure IsOp0 (o : Oper) (op : Op) : Prop where
  dst : o.dst = none
  op : o.op = op
  guard : o.guard = none
section
variable {P : Program} {Q : Exit → Act → World → Prop} {ops : Array Oper} {o : Oper} {a : Act} {w w' : World} {n : Nat} {σ : Nat → Value}
/-- in order, but for the last two, each of which stands alone when its turn comes -/
def inOrd2 (ops : Array Oper) : Nat → Nat → Array Bool → Bool
  | 0, i, listed => (Region.ready .any ops listed == [i]) && (Region.ready .any ops (listed.setIfInBounds i true) == [i + 1]) && (Region.ready .any ops ((listed.setIfInBounds i true).setIfInBounds (i + 1) true)).isEmpty
  | k + 1, i, listed => Region.free .any ops listed i && (Region.ready .any ops listed).contains i && inOrd2 ops k (i + 1) (listed.setIfInBounds i true)
def drawB2 (ops : Array Oper) : Bool := Region.noSelect ops && Nat.blt 1 ops.size && inOrd2 ops (ops.size - 2) 0 (Array.replicate ops.size false)
structure InOrd2 (ops : Array Oper) (k i : Nat) (listed : Array Bool) : Prop where
  sel : Region.noSelect ops = true
  ord : inOrd2 ops k i listed = true
/-- a part of a slice, with a bound on its room -/
theorem run_three {d : Nat} {t el : TypeId} {x y z m3 : Operand} {e : Operand → Value} {ad : Option Addr} {m c l h k : Nat} {i : TypeInfo} (ho : IsOp o d (.slice t x (some y) (some z) (some m3))) (hu : P.underlying t = some (.slice el)) (hi : P.info? el = some i)
    (hx : e x = .slice ad m c) (hy : e y = .int .i64 l) (hz : e z = .int .i64 h) (hm : e m3 = .int .i64 k) (h1 : l ≤ h) (h2 : h ≤ k) (h3 : k ≤ c) (w : World) : (execOp e o).run P w = .ok (.value (.slice (if k = l then ad else ad.map (·.add (l * i.size))) (h - l) (k - l))) w := by
  simp [execOp, ho.op, Instr.sliceAt, Instr.slice, run_underlying hu, hx, hy, hz, hm, Go.sizeOf, typeInfo, hi, Instr.sliceBounds, Instr.sliceBound, asIntOf, h1, h2, h3]
/-- .. between two indexes -/
theorem run_between {d : Nat} {t el : TypeId} {x y z : Operand} {e : Operand → Value} {ad : Option Addr} {m c l h size : Nat} {i : TypeInfo} (ho : IsOp o d (.slice t x (some y) (some z) none)) (hu : P.underlying t = some (.slice el)) (hi : P.info? el = some i) (hs : i.size = size)
    (hx : e x = .slice ad m c) (hy : e y = .int .i64 l) (hz : e z = .int .i64 h) (h1 : l ≤ h) (h2 : h ≤ c) (w : World) : (execOp e o).run P w = .ok (.value (.slice (if c = l then ad else ad.map (·.add (l * size))) (h - l) (c - l))) w := by
  simp [execOp, ho.op, Instr.sliceAt, Instr.slice, run_underlying hu, hx, hy, hz, Go.sizeOf, typeInfo, hi, hs, Instr.sliceBounds, Instr.sliceBound, asIntOf, h1, h2]
theorem run_clr {x : Operand} {t1 : TypeId} {e : Operand → Value} {v1 v : Value} (ho : IsOp0 o (.call { callee := .builtin .clear, args := #[x], argTypes := #[t1] })) (hx : e x = v1)
    (h : (Builtin.clear_ #[t1] o.type #[v1]).run P w = .ok v w') : (execOp e o).run P w = .ok (.value v) w' := by
  simp [execOp, ho.op, resolve, invoke, builtin, hx, h]
theorem run_clear_wide {t ty elem t2 : TypeId} {g off n c size : Nat} {z : Value} {cur : Array Value} {i : TypeInfo} (hu : P.underlying t = some (.slice elem)) (hi : P.info? elem = some i) (hz : i.zero = some z) (hzs : z.cells.size = size) (h1 : ∀ v ∈ z.cells.toList, v.oneCell' = true)
    (hg : w.heap[g]? = some (.cells cur t2 (0, 0))) (hn : 0 < n) (hfit : off + n * size ≤ cur.size) :
    ∃ zs : List Value, zs.length = n * size ∧ (Builtin.clear_ #[t] ty #[.slice (some ⟨g, off, none⟩) n c]).run P w = .ok (.tuple #[]) (w.setRow g (cur.toList.take off ++ zs ++ cur.toList.drop (off + zs.length)).toArray) := by
  refine ⟨(Builtin.zeroCells z.cells n).toList, ?_, ?_⟩
  · simp [Builtin.zeroCells, hzs]
  · have hl : (Builtin.zeroCells z.cells n).toList.length = n * size := by simp [Builtin.zeroCells, hzs]
    have hst := run_storeCells_at P g off t2 (Builtin.zeroCells z.cells n).toList 0 cur w hg (by rw [hl]; simpa using hfit) (by
      intro v hv
      simp only [Builtin.zeroCells, Array.toList_map, List.mem_map, Array.mem_toList_iff, Array.mem_range] at hv
      obtain ⟨j, hj, rfl⟩ := hv
      have hpos : 0 < z.cells.size := by
        rcases Nat.eq_zero_or_pos z.cells.size with h0 | h0
        · rw [h0] at hj; omega
        · exact h0
      have hlt : j % z.cells.size < z.cells.size := Nat.mod_lt _ hpos
      rw [getElem!_pos z.cells _ hlt]
      exact h1 _ (by simp))
    simp only [Nat.add_zero] at hst
    obtain ⟨m, rfl⟩ : ∃ m, n = m + 1 := ⟨n - 1, by omega⟩
    simp [Builtin.clear_, run_underlying hu, zeroValue, typeInfo, hi, hz, hst]
end
def delCode (r : Nat → Nat) (o : Nat → Oper) : Code :=
  .seq (.region (r 0) #[o 0] false) (.seq (.region (r 1) #[o 1, o 2, o 3, o 4, o 5, o 6] false) (.seq (.seq (.region (r 2) #[o 7, o 8, o 9] false) (.cond (.tmp 16) (.seq (.region (r 3) #[o 10, o 11] false) .ret) .skip)) (.seq (.region (r 4) #[o 12, o 13, o 14] false) (.seq (.region (r 5) #[o 15, o 16, o 17, o 18, o 19, o 20, o 21, o 22] true) (.seq (.region (r 6) #[o 23, o 24, o 25, o 26, o 27, o 28] false) (.seq (.region (r 7) #[o 29, o 30] false) .ret))))))
structure DelOps (t ti : Nat) (o : Nat → Oper) : Prop where
  h0 : IsOp (o 0) 6 (.assign (.const (.slice none 0 0)))
  h1 : IsOp (o 1) 8 (.move (.tmp 0))
  h2 : IsOp (o 2) 9 (.move (.tmp 1))
  h3 : IsOp (o 3) 10 (.move (.tmp 2))
  h4 : IsOp (o 4) 11 (.move (.tmp 0))
  h5 : IsOp (o 5) 12 (.call { callee := .builtin .len, args := #[.tmp 11], argTypes := #[t] })
  h6 : IsOp (o 6) 13 (.slice t (.tmp 8) (some (.tmp 9)) (some (.tmp 10)) (some (.tmp 12)))
  h7 : IsOp (o 7) 14 (.move (.tmp 1))
  h8 : IsOp (o 8) 15 (.move (.tmp 2))
  h9 : IsOp (o 9) 16 (.binOp .eql ti (.tmp 14) (.tmp 15) ti)
  h10 : IsOp (o 10) 17 (.move (.tmp 0))
  h11 : IsOp (o 11) 6 (.assign (.tmp 17))
  h12 : IsOp (o 12) 18 (.move (.tmp 0))
  h13 : IsOp (o 13) 19 (.call { callee := .builtin .len, args := #[.tmp 18], argTypes := #[t] })
  h14 : IsOp (o 14) 7 (.assign (.tmp 19))
  h15 : IsOp (o 15) 20 (.move (.tmp 0))
  h16 : IsOp (o 16) 21 (.move (.tmp 1))
  h17 : IsOp (o 17) 22 (.slice t (.tmp 20) none (some (.tmp 21)) none)
  h18 : IsOp (o 18) 23 (.move (.tmp 0))
  h19 : IsOp (o 19) 24 (.move (.tmp 2))
  h20 : IsOp (o 20) 25 (.slice t (.tmp 23) (some (.tmp 24)) none none)
  h21 : IsOp (o 21) 26 (.call { callee := .builtin .append, args := #[.tmp 22, .tmp 25], argTypes := #[t, t] })
  h22 : IsOp (o 22) 0 (.assign (.tmp 26))
  h23 : IsOp (o 23) 27 (.move (.tmp 0))
  h24 : IsOp (o 24) 28 (.move (.tmp 0))
  h25 : IsOp (o 25) 29 (.call { callee := .builtin .len, args := #[.tmp 28], argTypes := #[t] })
  h26 : IsOp (o 26) 30 (.move (.tmp 7))
  h27 : IsOp (o 27) 31 (.slice t (.tmp 27) (some (.tmp 29)) (some (.tmp 30)) none)
  h28 : IsOp0 (o 28) (.call { callee := .builtin .clear, args := #[.tmp 31], argTypes := #[t] })
  h29 : IsOp (o 29) 32 (.move (.tmp 0))
  h30 : IsOp (o 30) 6 (.assign (.tmp 32))
  d5 : drawB2 #[o 15, o 16, o 17, o 18, o 19, o 20, o 21, o 22] = true
structure DelFn (P : Program) (f t ti el : Nat) (fn : Func) (r : Nat → Nat) (o : Nat → Oper) : Prop where
  pos : P.funcs[f]? = some fn
  name : (fn.name == "runtime.NumGoroutine") = false
  tmps : fn.ntmps = 33
  res : fn.results = #[.tmp 6]
  body : fn.body = some (delCode r o)
  ops : DelOps t ti o
  mix : P.follows .mixedOrders = true
  und : P.underlying t = some (.slice el)
section
variable {P : Program} {f t ti el : Nat} {fn : Func} {r : Nat → Nat} {o : Nat → Oper} {ie : TypeInfo} {size n c i j g : Nat} {ad : Option Addr} {w : World}
theorem del_ret {a : Act} {w : World} {σ : Nat → Value} {R : Ending → World → Prop} {v : Value} (hr : fn.results = #[.tmp 6]) (htm : Tm a 33 σ) (h6 : σ 6 = v) (h : R (.returned v) w) : bodyPost P fn R .ret a w := by
  refine ⟨htm.defers, v, ?_, h⟩
  have h2 : a.tmps[6]?.getD undef = v := by have := htm.get 6; rw [h6] at this; simpa using this
  simp [results, hr, h2]
theorem del_none (hf : DelFn P f t ti el fn r o) (hie : P.info? el = some ie) (hn : n ≤ c) (hi : i ≤ n) :
    Calls P f #[.slice ad n c, .int .i64 ((i : Nat) : Int), .int .i64 ((i : Nat) : Int)] w fun x w' => x = .returned (.slice ad n c) ∧ w' = w := by
  refine calls_of_wp hf.pos hf.body ?_
  rw [hf.tmps]
  have key : ∀ a : Act, Tm a 33 (upd (upd (upd (fun _ => undef) 0 (.slice ad n c)) 1 (.int .i64 ((i : Nat) : Int))) 2 (.int .i64 ((i : Nat) : Int))) → (delCode r o).wp P (bodyPost P fn fun x w' => x = .returned (.slice ad n c) ∧ w' = w) a w := by
   intro a htm
   unfold delCode
   refine wp_seq (wp_region ?_)
   rw [show List.range (#[o 0] : Array Oper).size = [0] from rfl]
   refine htm.step (v := .slice none 0 0) rfl hf.ops.h0 (by decide) (run_asg hf.ops.h0 _) (fun a htm => ?_)
   refine wp_seq (wp_region ?_)
   rw [show List.range (#[o 1, o 2, o 3, o 4, o 5, o 6] : Array Oper).size = [0, 1, 2, 3, 4, 5] from rfl]
   refine htm.step (v := .slice ad n c) rfl hf.ops.h1 (by decide) (run_mv hf.ops.h1 _) (fun a htm => ?_)
   refine htm.step (v := .int .i64 ((i : Nat) : Int)) rfl hf.ops.h2 (by decide) (run_mv hf.ops.h2 _) (fun a htm => ?_)
   refine htm.step (v := .int .i64 ((i : Nat) : Int)) rfl hf.ops.h3 (by decide) (run_mv hf.ops.h3 _) (fun a htm => ?_)
   refine htm.step (v := .slice ad n c) rfl hf.ops.h4 (by decide) (run_mv hf.ops.h4 _) (fun a htm => ?_)
   refine htm.step (v := .int .i64 ((n : Nat) : Int)) rfl hf.ops.h5 (by decide) (run_len hf.ops.h5 hf.und rfl _) (fun a htm => ?_)
   refine htm.step rfl hf.ops.h6 (by decide) (run_three hf.ops.h6 hf.und hie rfl rfl rfl rfl (Nat.le_refl _) hi hn _) (fun a htm => ?_)
   refine wp_seq ?_
   refine wp_seq (wp_region ?_)
   rw [show List.range (#[o 7, o 8, o 9] : Array Oper).size = [0, 1, 2] from rfl]
   refine htm.step (v := .int .i64 ((i : Nat) : Int)) rfl hf.ops.h7 (by decide) (run_mv hf.ops.h7 _) (fun a htm => ?_)
   refine htm.step (v := .int .i64 ((i : Nat) : Int)) rfl hf.ops.h8 (by decide) (run_mv hf.ops.h8 _) (fun a htm => ?_)
   refine htm.step (v := .bool (decide (((i : Nat) : Int) = ((i : Nat) : Int)))) rfl hf.ops.h9 (by decide) (run_ieq hf.ops.h9 rfl rfl _) (fun a htm => ?_)
   refine htm.cond (b := true) (by show Value.bool (decide (((i : Nat) : Int) = ((i : Nat) : Int))) = _; rw [decide_eq_true rfl]) ?_
   simp only [if_true]
   refine wp_seq (wp_region ?_)
   rw [show List.range (#[o 10, o 11] : Array Oper).size = [0, 1] from rfl]
   refine htm.step (v := .slice ad n c) rfl hf.ops.h10 (by decide) (run_mv hf.ops.h10 _) (fun a htm => ?_)
   refine htm.step (v := .slice ad n c) rfl hf.ops.h11 (by decide) (run_asg hf.ops.h11 _) (fun a htm => ?_)
   refine wp_ret ?_
   show bodyPost P fn (fun x wq => x = .returned (.slice ad n c) ∧ wq = w) .ret a w
   refine del_ret hf.res htm (v := .slice ad n c) rfl ?_
   exact ⟨rfl, rfl⟩
  exact key _ (tm3 _ _ _ 30)
end
section
variable {P : Program} {c : Ctx} {f : Nat}
end
end Dn
/-
  slices.IndexFunc and slices.DeleteFunc of the library, walked, with whatever function. Conditions: none.
-/
set_option linter.unusedSimpArgs false
set_option linter.unusedVariables false
namespace Dn
open Go
section
variable {P : Program} {Q : Exit → Act → World → Prop} {ops : Array Oper} {o : Oper} {a : Act} {w w' : World} {n : Nat} {σ : Nat → Value}
theorem Tm.call {i d : Nat} {op : Op} {rest : List Nat} {f : Nat} {args : Array Value} {Rp : Value → World → Prop} (htm : Tm a n σ) (hi : ops[i]? = some o) (ho : IsOp o d op) (hd : d < n)
    (hrun : (execOp (ev σ) o).run P w = (callFunc f args).run P w) (hc : CallOK P f args w Rp) (h : ∀ v w' a', Rp v w' → Tm a' n (upd σ d v) → wpOps P ops Q rest a' w') : wpOps P ops Q (i :: rest) a w := by
  rw [wpOps_cons]
  unfold wpOp
  simp only [hi, Region.wanted, ho.guard, if_true]
  left
  refine call_out (by rw [htm.eval]; exact hrun) hc ?_
  intro v w' hr
  rw [ho.dst]
  exact h v w' _ hr (htm.put hd v)
theorem run_lda {c : Ctx} {d : Nat} {t : TypeId} {I : TI} {x : Operand} {e : Operand → Value} {g off : Nat} {vs : List Value} (ho : IsOp o d (.load t x)) (hr : RowOK c.ti P t I) (hc : I.comps = []) (hst : I.st = true) (hl : vs.length = I.size)
    (hx : e x = .pointer (some ⟨g, off, none⟩)) (hm : w.rangeAt g off vs) : (execOp e o).run P w = .ok (.value (.agg vs.toArray)) w := by
  rcases run_load_cells (P := P) hr hc hl hm with ⟨_, h⟩ | ⟨h, _⟩
  · have := h w hm
    simp [execOp, ho.op, hx, this]
  · rw [hst] at h; cases h
theorem run_sto {c : Ctx} {t : TypeId} {I : TI} {x y : Operand} {e : Operand → Value} {g off : Nat} {v : Value} {arr : Array Value} {T : TypeId} (ho : IsOp0 o (.store t x y)) (hr : RowOK c.ti P t I) (hc : I.comps = []) (hx : e x = .pointer (some ⟨g, off, none⟩)) (hy : e y = v)
    (hs : v.cells.toList.length = I.size) (hone : ∀ u ∈ v.cells.toList, u.oneCell' = true) (hheap : w.heap[g]? = some (.cells arr T (0, 0))) (hfit : off + I.size ≤ arr.size) :
    (execOp e o).run P w = .ok .skip (w.setRow g (arr.toList.take off ++ v.cells.toList ++ arr.toList.drop (off + I.size)).toArray) := by
  have := run_storeAt_row (P := P) (w := w) hr hc hs hone hheap hfit
  simp [execOp, ho.op, hx, hy, this]
theorem Tm.skip0 {i : Nat} {op : Op} {rest : List Nat} (htm : Tm a n σ) (hi : ops[i]? = some o) (ho : IsOp0 o op) (hrun : (execOp (ev σ) o).run P w = .ok .skip w')
    (h : wpOps P ops Q rest a w') : wpOps P ops Q (i :: rest) a w := by
  rw [wpOps_cons]
  unfold wpOp
  simp only [hi, Region.wanted, ho.guard, if_true]
  left
  unfold Oper.wp
  rw [htm.eval, hrun]
  simp only [Oper.upon]
  rw [ho.dst]
  exact h
theorem run_fnc {d : Nat} {x y : Operand} {t : Array TypeId} {e : Operand → Value} {g : Nat} {v u : Value} (ho : IsOp o d (.call { callee := .value (.func g), args := #[x, y], argTypes := t })) (he : e (.func g) = .func (.func g) #[] #[]) (hx : e x = v) (hy : e y = u) (w : World) :
    (execOp e o).run P w = (callFunc g #[v, u]).run P w := by
  simp [execOp, ho.op, resolve, invoke, he, hx, hy, Deferred.ofValue]
end

/-! ### slices.IndexFunc -/
def idxCode (r : Nat → Nat) (o : Nat → Oper) : Code :=
  .seq (.region (r 0) #[o 0] false) (.seq (.seq (.region (r 1) #[o 1, o 2, o 3] false) (.block 0 (.loop (.seq (.region (r 2) #[o 4] false) (.seq (.cond (.tmp 9) .skip (.exit 0)) (.seq (.block 1 (.seq (.region (r 3) #[o 5, o 6] false) (.seq (.region (r 4) #[o 7, o 8, o 9, o 10, o 11, o 12] false) (.cond (.tmp 16) (.seq (.region (r 5) #[o 13, o 14] false) .ret) .skip)))) (.region (r 6) #[o 15, o 16] false))))))) (.seq (.region (r 7) #[o 17] false) .ret))
structure IdxOps (t el ti : Nat) (o : Nat → Oper) : Prop where
  h0 : IsOp (o 0) 4 (.assign (.const (.int .i64 0)))
  h1 : IsOp (o 1) 6 (.move (.tmp 0))
  h2 : IsOp (o 2) 7 (.call { callee := .builtin .len, args := #[.tmp 6], argTypes := #[t] })
  h3 : IsOp (o 3) 8 (.move (.const (.int .i64 0)))
  h4 : IsOp (o 4) 9 (.binOp .lss ti (.tmp 8) (.tmp 7) ti)
  h5 : IsOp (o 5) 10 (.move (.tmp 8))
  h6 : IsOp (o 6) 5 (.assign (.tmp 10))
  h7 : IsOp (o 7) 11 (.move (.tmp 1))
  h8 : IsOp (o 8) 12 (.move (.tmp 0))
  h9 : IsOp (o 9) 13 (.move (.tmp 5))
  h10 : IsOp (o 10) 14 (.indexAddr t (.tmp 12) (.tmp 13))
  h11 : IsOp (o 11) 15 (.load el (.tmp 14))
  h12 : IsOp (o 12) 16 (.call { callee := .value (.tmp 11), args := #[.tmp 15], argTypes := #[el] })
  h13 : IsOp (o 13) 17 (.move (.tmp 5))
  h14 : IsOp (o 14) 4 (.assign (.tmp 17))
  h15 : IsOp (o 15) 18 (.binOp .add ti (.tmp 8) (.const (.int .i64 1)) ti)
  h16 : IsOp (o 16) 8 (.move (.tmp 18))
  h17 : IsOp (o 17) 4 (.assign (.const (.int .i64 (-1))))
structure IdxFn (P : Program) (f t ti el : Nat) (fn : Func) (r : Nat → Nat) (o : Nat → Oper) : Prop where
  pos : P.funcs[f]? = some fn
  name : (fn.name == "runtime.NumGoroutine") = false
  tmps : fn.ntmps = 19
  res : fn.results = #[.tmp 4]
  body : fn.body = some (idxCode r o)
  ops : IdxOps t el ti o
  und : P.underlying t = some (.slice el)
theorem elems_at {key : Nat → Nat} {φ : Ph} {size : Nat} {xs : List MV} {cells : List Value} (h : ElemsRep key φ size cells xs) {k : Nat} (hk : k < xs.length) :
    ((cells.drop (k * size)).take size).length = size ∧ Rep key φ ((cells.drop (k * size)).take size) xs[k] := by
  obtain ⟨p1, v1, p2, he, hl1, hl2, hrep⟩ := h.at (List.getElem?_eq_getElem hk)
  have : (cells.drop (k * size)).take size = v1 := by
    rw [he, List.append_assoc, ← hl1, List.drop_left, ← hl2, List.take_left]
  rw [this]
  exact ⟨hl2, hrep⟩
section
variable {P : Program} {c : Ctx} {f t ti el : Nat} {fn : Func} {r : Nat → Nat} {o : Nat → Oper} {E : TI} {n cp g0 g : Nat} {ad : Option Addr} {ob : Option Nat} {w : World} {lb : Array Value} {S : Type} {Inv : S → (Nat → Prop) → Ph → World → Prop} {step : S → MV → Option (Bool × S)}
end
end Dn
/-
  slices.DeleteFunc of the library, walked, with whatever function. Conditions: none.
-/
set_option linter.unusedSimpArgs false
set_option linter.unusedVariables false
namespace Dn
open Go
def delfCode (r : Nat → Nat) (o : Nat → Oper) : Code :=
  .seq (.region (r 0) #[o 0] false) (.seq (.region (r 1) #[o 1, o 2, o 3, o 4] false) (.seq (.seq (.region (r 2) #[o 5, o 6] false) (.cond (.tmp 12) (.seq (.region (r 3) #[o 7, o 8] false) .ret) .skip)) (.seq (.seq (.region (r 4) #[o 9, o 10, o 11] false) (.block 0 (.loop (.seq (.seq (.region (r 5) #[o 12, o 13, o 14, o 15] false) (.cond (.tmp 19) .skip (.exit 0))) (.seq (.block 1 (.seq (.region (r 6) #[o 16, o 17, o 18, o 19, o 20, o 21] false) (.seq (.region (r 7) #[o 22, o 23, o 24, o 25] false) (.cond (.tmp 29) (.seq (.region (r 8) #[o 26, o 27, o 28, o 29, o 30] false) (.region (r 9) #[o 31, o 32, o 33] false)) .skip)))) (.region (r 10) #[o 34, o 35, o 36] false)))))) (.seq (.region (r 11) #[o 37, o 38, o 39, o 40] false) (.seq (.region (r 12) #[o 41, o 42, o 43, o 44] false) .ret)))))
structure DelfOps (t el ti tb fu fi : Nat) (o : Nat → Oper) : Prop where
  h0 : IsOp (o 0) 4 (.assign (.const (.slice none 0 0)))
  h1 : IsOp (o 1) 8 (.move (.tmp 0))
  h2 : IsOp (o 2) 9 (.move (.tmp 1))
  h3 : IsOp (o 3) 10 (.call { callee := .value (.func fi), args := #[.tmp 8, .tmp 9], argTypes := #[t, fu] })
  h4 : IsOp (o 4) 5 (.assign (.tmp 10))
  h5 : IsOp (o 5) 11 (.move (.tmp 5))
  h6 : IsOp (o 6) 12 (.binOp .eql ti (.tmp 11) (.const (.int .i64 (-1))) ti)
  h7 : IsOp (o 7) 13 (.move (.tmp 0))
  h8 : IsOp (o 8) 4 (.assign (.tmp 13))
  h9 : IsOp (o 9) 14 (.move (.tmp 5))
  h10 : IsOp (o 10) 15 (.binOp .add ti (.tmp 14) (.const (.int .i64 1)) ti)
  h11 : IsOp (o 11) 6 (.assign (.tmp 15))
  h12 : IsOp (o 12) 16 (.move (.tmp 6))
  h13 : IsOp (o 13) 17 (.move (.tmp 0))
  h14 : IsOp (o 14) 18 (.call { callee := .builtin .len, args := #[.tmp 17], argTypes := #[t] })
  h15 : IsOp (o 15) 19 (.binOp .lss ti (.tmp 16) (.tmp 18) ti)
  h16 : IsOp (o 16) 22 (.move (.tmp 0))
  h17 : IsOp (o 17) 23 (.move (.tmp 6))
  h18 : IsOp (o 18) 24 (.indexAddr t (.tmp 22) (.tmp 23))
  h19 : IsOp (o 19) 25 (.load el (.tmp 24))
  h20 : IsOp (o 20) 7 (.alloc el)
  h21 : IsOp0 (o 21) (.store el (.tmp 7) (.tmp 25))
  h22 : IsOp (o 22) 26 (.move (.tmp 1))
  h23 : IsOp (o 23) 27 (.load el (.tmp 7))
  h24 : IsOp (o 24) 28 (.call { callee := .value (.tmp 26), args := #[.tmp 27], argTypes := #[el] })
  h25 : IsOp (o 25) 29 (.unOp .not tb (.tmp 28))
  h26 : IsOp (o 26) 30 (.move (.tmp 0))
  h27 : IsOp (o 27) 31 (.move (.tmp 5))
  h28 : IsOp (o 28) 32 (.load el (.tmp 7))
  h29 : IsOp (o 29) 33 (.indexAddr t (.tmp 30) (.tmp 31))
  h30 : IsOp0 (o 30) (.store el (.tmp 33) (.tmp 32))
  h31 : IsOp (o 31) 34 (.move (.tmp 5))
  h32 : IsOp (o 32) 35 (.binOp .add ti (.tmp 34) (.const (.int .i64 1)) ti)
  h33 : IsOp (o 33) 5 (.assign (.tmp 35))
  h34 : IsOp (o 34) 20 (.move (.tmp 6))
  h35 : IsOp (o 35) 21 (.binOp .add ti (.tmp 20) (.const (.int .i64 1)) ti)
  h36 : IsOp (o 36) 6 (.assign (.tmp 21))
  h37 : IsOp (o 37) 36 (.move (.tmp 0))
  h38 : IsOp (o 38) 37 (.move (.tmp 5))
  h39 : IsOp (o 39) 38 (.slice t (.tmp 36) (some (.tmp 37)) none none)
  h40 : IsOp0 (o 40) (.call { callee := .builtin .clear, args := #[.tmp 38], argTypes := #[t] })
  h41 : IsOp (o 41) 39 (.move (.tmp 0))
  h42 : IsOp (o 42) 40 (.move (.tmp 5))
  h43 : IsOp (o 43) 41 (.slice t (.tmp 39) none (some (.tmp 40)) none)
  h44 : IsOp (o 44) 4 (.assign (.tmp 41))
structure DelfFn (P : Program) (f t ti tb fu fi el : Nat) (fn : Func) (r : Nat → Nat) (o : Nat → Oper) : Prop where
  pos : P.funcs[f]? = some fn
  name : (fn.name == "runtime.NumGoroutine") = false
  tmps : fn.ntmps = 42
  res : fn.results = #[.tmp 4]
  body : fn.body = some (delfCode r o)
  ops : DelfOps t el ti tb fu fi o
  und : P.underlying t = some (.slice el)
section
variable {P : Program} {c : Ctx} {f fi t ti tb fu el : Nat} {fn fni : Func} {r ri : Nat → Nat} {o oi : Nat → Oper} {E : TI} {cp g0 g : Nat} {ad : Option Addr} {ob : Option Nat} {w W W2 : World} {lb : Array Value} {S : Type} {Inv : S → (Nat → Prop) → Ph → World → Prop} {step : S → MV → Option (Bool × S)} {Z0 Z : Nat → Prop} {φ0 φ : Ph} {s : S}
theorem Walk.move (hp : PredOK P c g lb Inv step) (hW : Walk c ob Inv Z0 φ0 w s Z φ W) (hsz : W.heap.size ≤ W2.heap.size) (hsame : ∀ b, b < W.heap.size → ob ≠ some b → W2.heap[b]? = W.heap[b]?) (hrest : Rest W W2) (hnz : ∀ b, ob = some b → ¬ Z b) :
    Walk c ob Inv Z0 φ0 w s (fun b => (Z b ∧ b < W.heap.size) ∨ W2.heap.size ≤ b) φ W2 := by
  have hws := hW.tr.size
  refine ⟨hp.mono (hp.frame hW.inv hsz fun b hz hb => hsame b hb (fun e => hnz b e hz)) fun b hb => .inl hb, fun b hb => .inr hb, fun b hb => ?_, fun b off v hv => ?_, ?_, hW.free⟩
  · rcases hb with hb | hb
    · exact hW.sub b hb.1
    · exact .inr (by omega)
  · have h1 := hW.imm b off v hv
    have hlt := World.block_lt_of_cell? W _ h1
    have hne : ob ≠ some b := by intro e; rw [hW.free b off e] at hv; cases hv
    rw [World.cell?_of_block (hsame b hlt hne)]
    exact h1
  · refine hW.tr.trans ⟨.refl _, fun b hb hlt => ?_, fun _ _ _ => rfl, hsz, hrest⟩
    exact hsame b hlt (fun e => hb (.inr e))
/-- the row on the way -/
structure RowSt (c : Ctx) (sz n cp : Nat) (cells : List Value) (cur : Array Value) (φ : Ph) (i j : Nat) (ys : List MV) : Prop where
  size : cur.size = cp * sz
  done : ElemsRep c.key φ sz (cur.toList.take (i * sz)) ys
  len : ys.length = i
  rest : (cur.toList.take (n * sz)).drop (j * sz) = cells.drop (j * sz)
end
end Dn
/-
  Going through a map, in whatever order; a label at the end of a scope. Conditions: none.
-/
set_option linter.unusedSimpArgs false
set_option linter.unusedVariables false
namespace Dn
open Go

/-! ### going through a map; a label at the end of a scope -/
def goesOn {R : Type} (x : Option (Sum Unit R)) : Bool := match x with | some (.inl _) => true | _ => false
/-- all go on, or just one leaves: how -/
def RangeM {α R : Type} (f : α → Option (Sum Unit R)) (d : Option R) : List α → Option R
  | [] => d
  | x :: xs => match f x with
    | some (.inl _) => RangeM f d xs
    | some (.inr r) => bif xs.all fun y => goesOn (f y) then some r else none
    | none => none
/-- the text of a loop over a map: what is gone through, the loop, a round -/
structure Rng where
  i1 : Nat
  o1 : Array Oper
  a1 : Oper
  b1 : Oper
  x : Operand
  d1 : Nat
  t : Nat
  d2 : Nat
  k : Nat
  i2 : Nat
  o2 : Array Oper
  a2 : Oper
  r2 : List Oper
  cx : Operand
  kx : Nat
  k5 : Nat
  i3 : Nat
  o3 : Array Oper
  a3 : Oper
  r3 : List Oper
  rest : Code
def Rng.body (q : Rng) : Code := .seq (.region q.i2 q.o2 false) (.seq (.cond q.cx .skip (.exit q.kx)) (.block q.k5 (.seq (.region q.i3 q.o3 false) q.rest)))
def Rng.code (q : Rng) : Code := .seq (.region q.i1 q.o1 false) (.block q.k (.loop q.body))
def isNone {α : Type} : Option α → Bool
  | none => true
  | some _ => false
def movB (o : Oper) : Option Operand := match o.op with | .move x => some x | _ => none
def rngB (o : Oper) (d : Nat) : Option Nat := match o.op with | .range t (.tmp y) => bif Nat.beq y d then some t else none | _ => none
def nxtB (o : Oper) (d : Nat) : Bool := match o.op with | .next (.tmp y) false => Nat.beq y d | _ => false
def entB (o : Oper) (d : Nat) : Bool := match o.op with | .entry (.tmp y) => Nat.beq y d | _ => false
def rngAt (code : Code) : Option Rng := match code with
  | .seq (.region i1 o1 false) (.block k (.loop (.seq (.region i2 o2 false) (.seq (.cond cx .skip (.exit kx)) (.block k5 (.seq (.region i3 o3 false) rest)))))) =>
    (match o1.toList, o2.toList, o3.toList with
    | [a1, b1], a2 :: r2, a3 :: r3 => (match movB a1, a1.dst, b1.dst with
      | some x, some d1, some d2 => (match rngB b1 d1 with
        | some t => bif nxtB a2 d2 && (entB a3 d2 && (isNone a1.guard && (isNone b1.guard && (isNone a2.guard && isNone a3.guard)))) then
            some ⟨i1, o1, a1, b1, x, d1, t, d2, k, i2, o2, a2, r2, cx, kx, k5, i3, o3, a3, r3, rest⟩ else none
        | none => none)
      | _, _, _ => none)
    | _, _, _ => none)
  | _ => none
/-- an entry: a text, and a number -/
def entT {R : Type} (m : MV) (K : List UInt8 → Int → Option R) : Option R :=
  gT m fun l => gC l fun ka r => gA ka fun ks => gC ks fun k0 kr => gN kr <| gS k0 fun key => gC r fun v0 vr => gN vr <| gI .i64 v0 fun n => K key n
/-- a round, for an entry -/
noncomputable def rngE (c : Ctx) (q : Rng) (st : St) (m : MV) : Option (Sum Unit (Nat × List MV)) :=
  entT m fun key n => setDst c st q.a2.dst (.tup [.sc (.p (.b true)), .sc (.p (.s key)), .sc (.p (.i .i64 n))]) fun st => opsK c q.o2.toList q.r2 st fun st => (match evalO c st q.cx with
    | .sc (.p (.b true)) => setDst c st q.a3.dst (.tup [.sc (.p (.s key)), .sc (.p (.i .i64 n))]) fun st => opsK c q.o3.toList q.r3 st fun st =>
        codeK c q.rest (Sum Unit (Nat × List MV)) st fun e st => bif Nat.beq e 0 || Nat.beq e (q.k5 + 2) then some (.inl ()) else takeO st [] ((c.lop q.i2).ex e) fun vs => some (.inr (e, vs))
    | _ => none)
/-- behind the last one -/
def rngD (c : Ctx) (q : Rng) (st : St) : Option (Nat × List MV) :=
  setDst c st q.a2.dst (.tup [.sc (.p (.b false))]) fun st => opsK c q.o2.toList q.r2 st fun st => (match evalO c st q.cx with
    | .sc (.p (.b false)) => takeO st [] ((c.lop q.i2).ex (q.kx + 2)) fun vs => some (q.kx + 2, vs)
    | _ => none)
noncomputable def rngK (c : Ctx) (q : Rng) {R : Type} (st : St) (K : Nat → St → Option R) : Option R :=
  setDst c st (some q.d1) (evalO c st q.x) fun st => match evalO c st (.tmp q.d1), msOf c q.t with
    | .mref root, some s0 => (match fget st.fr root with
      | .box [.mp s _] => bif psB root || !msB s s0 then none else
        setDst c st (some q.d2) (.sc .un) fun st => begin_ c (c.lop q.i2) st fun _ st2 => (match (c.lop q.i2).outs, fget st2.fr root with
          | [], .box [.mp s2 es] => bif s2.st || (!kdsB s2.lay [.s] || (s2.b || !nmem st2.prot q.d2)) then none else
            bd (RangeM (rngE c q st2) (rngD c q st2) es) fun r => exs (minus (exitsC q.body) [0]) r.1 fun e => giveO (after_ st st2) ((c.lop q.i2).ex e) r.2 fun st => K (bif Nat.beq e (q.k + 2) then 0 else e) st
          | _, _ => none)
      | _ => none)
    | _, _ => none
def gotoB (a b : Code) : Option Nat := match a, b with
  | .goto l, .skip => some l
  | _, _ => none
/-- code that may jump to the label l; G: what stands behind it -/
noncomputable def codeG (c : Ctx) {R : Type} (l : Nat) (G : St → Option R) : Code → St → (Nat → St → Option R) → Option R
  | .seq a b, st, K => codeG c l G a st fun e st => bif Nat.beq e 0 then codeG c l G b st K else K e st
  | .cond x a b, st, K => (match gotoB a b with
    | some l' => bif Nat.beq l' l then (match evalO c st x with | .sc (.p (.b v)) => ifB v (G st) (K 0 st) | _ => none) else none
    | none => codeK c (.cond x a b) R st K)
  | .label _, st, K => K 0 st
  | code, st, K => codeK c code R st K
noncomputable def codeX (c : Ctx) {R : Type} : Code → St → (Nat → St → Option R) → Option R
  | .seq a b, st, K => (match rngAt a with
    | some q => rngK c q st fun e st => bif Nat.beq e 0 then codeX c b st K else K e st
    | none => codeK c a R st fun e st => bif Nat.beq e 0 then codeX c b st K else K e st)
  | .scope b, st, K => (match findLabel b 0 with
    | some rest => codeG c 0 (fun st => codeK c rest R st K) b st K
    | none => none)
  | code, st, K => codeK c code R st K
noncomputable def bodyX (c : Ctx) (caps : List (List Kd)) (fresh : Option Nat) (f : Func) (args : List MV) : Option MV := bodyG (fun b st K => codeX c b st K) c caps fresh f args

theorem rangeM_spec {α R : Type} {f : α → Option (Sum Unit R)} {d : Option R} {r : R} : ∀ {es : List α}, RangeM f d es = some r → (∀ m ∈ es, f m = some (.inl ()) ∨ f m = some (.inr r)) ∧ ((∀ m ∈ es, f m = some (.inl ())) → d = some r) := by
  intro es
  induction es with
  | nil => intro h; exact ⟨by simp, fun _ => h⟩
  | cons x xs ih =>
    intro h
    simp only [RangeM] at h
    split at h
    · rename_i u hx
      obtain ⟨h1, h2⟩ := ih h
      refine ⟨fun m hm => ?_, fun hm => h2 fun m hx => hm m (List.mem_cons_of_mem _ hx)⟩
      rcases List.mem_cons.1 hm with rfl | hm
      · exact .inl hx
      · exact h1 m hm
    · rename_i r' hx
      cases ha : xs.all fun y => goesOn (f y) with
      | false => rw [ha] at h; cases h
      | true =>
        rw [ha] at h
        simp only [cond_true, Option.some.injEq] at h
        subst h
        refine ⟨fun m hm => ?_, fun hm => ?_⟩
        · rcases List.mem_cons.1 hm with rfl | hm
          · exact .inr hx
          · rw [List.all_eq_true] at ha
            have := ha m hm
            unfold goesOn at this
            split at this
            · rename_i u hu; exact .inl hu
            · cases this
        · have := hm x (by simp)
          rw [hx] at this; cases this
    · cases h

section
variable {P : Program} {c : Ctx} {Z Zb Zi : Zone} {e e' e3 : Env} {st st' st3 B : St} {a a' : Act} {w w' : World} {R : Type} {r : R} {Q : Exit → Act → World → Prop} {o : Oper} {hn : Hint}

/-- without a block -/
def Zone.cv (Z : Zone) (g : Nat) : Zone := { Z with In := fun b => Z.In b ∧ b ≠ g }
theorem Joins.carve {g : Nat} (j : Joins c Zb Zi e B hn a w) (hg : g < w.heap.size) : Joins c Zb (Zi.cv g) e B hn a w :=
  ⟨j.sim, fun b hb => j.sub b hb.1, fun b hb => ⟨j.new b hb, by omega⟩, j.prot, j.T, j.keys, fun t cs ht hz => j.box t cs ht hz.1, fun f o b ho hb hz => j.fam f o b ho hb hz.1, j.outK, j.outF, j.ptr, j.men⟩
theorem Joins.simIn {g : Nat} (j : Joins c Zi Zi e B hn a w) (hg : g < w.heap.size) : Sim c (Zi.cv g) e B a w := by
  have h := j.sim
  have hm : e.m = B.fams := h.m
  have := h.sub (Zi := Zi.cv g) (st' := B) (fun _ h => h) ⟨h.defers.2.1, h.defers.2.2.1, h.defers.2.2.2⟩ h.nodup (fun t => .inr ⟨j.ptr t, .inl rfl⟩) (fun f o ho => ⟨o, ho, rfl, rfl, id⟩)
    (by
      intro t cs ht
      have hs := h.slot t
      rw [ht] at hs
      rcases hs.2.zone with h1 | h1
      · exact .inl h1
      · exact absurd h1 (j.box t cs ht))
    (by
      intro f o b ho hb
      obtain ⟨I, cells, _, _, _, _, g5⟩ := (h.fam f o ho).row
      rcases (g5 b hb).1 with h1 | h1
      · exact .inl h1
      · exact absurd h1 (j.fam f o b ho hb))
    (by
      intro f o I cells b ho hp hz hI hown hb k hk
      obtain ⟨I', cells', g1, _, g3, _, g5⟩ := (h.fam f o ho).row
      rw [hI] at g1
      cases g1
      rw [owns_unique hown g3 hb] at hk ⊢
      exact (g5 b hb).2.2 hp hz k hk)
    (fun b hb => ⟨j.new b hb, by omega⟩)
  have he : { e with m := B.fams } = e := by cases e; simp at hm ⊢; exact hm.symm
  rw [he] at this
  exact this

theorem setDst_nobox {d : Nat} {s : Slot} {K : St → Option R} (hK : setDst c st (some d) s K = some r) : isBox (fget st.fr d) = false ∧ d ∉ st.prot ∧ d < c.n := by
  simp only [setDst] at hK
  cases hbb : psB d || (Nat.ble c.n d || isBox (fget st.fr d)) with
  | true => simp [hbb] at hK
  | false =>
    obtain ⟨_, hb⟩ := Bool.or_eq_false_iff.1 hbb
    obtain ⟨hb1, hb2⟩ := Bool.or_eq_false_iff.1 hb
    simp only [hbb, cond_false, wr] at hK
    cases hp : nmem st.prot d with
    | true => simp [hp] at hK
    | false =>
      refine ⟨hb2, fun hm => ?_, ?_⟩
      · rw [← nmem_iff, hp] at hm; cases hm
      · by_cases hh : d < c.n
        · exact hh
        · rw [Nat.ble_eq_true_of_le (by omega)] at hb1; cases hb1

theorem rngAt_spec {code : Code} {q : Rng} (h : rngAt code = some q) : code = q.code ∧ q.o1.toList = [q.a1, q.b1] ∧ q.o2.toList = q.a2 :: q.r2 ∧ q.o3.toList = q.a3 :: q.r3 ∧ q.a1.op = .move q.x ∧ q.a1.dst = some q.d1 ∧
    q.b1.op = .range q.t (.tmp q.d1) ∧ q.b1.dst = some q.d2 ∧ q.a2.op = .next (.tmp q.d2) false ∧ q.a3.op = .entry (.tmp q.d2) ∧ q.a1.guard = none ∧ q.b1.guard = none ∧ q.a2.guard = none ∧ q.a3.guard = none := by
  have hN : ∀ {α : Type} {x : Option α}, isNone x = true → x = none := by intro α x hx; cases x <;> first | rfl | cases hx
  unfold rngAt at h
  split at h
  · rename_i i1 o1 k i2 o2 cx kx k5 i3 o3 rest
    split at h
    · rename_i a1 b1 a2 r2 a3 r3 e1 e2 e3
      split at h
      · rename_i x d1 d2 g1 g2 g3
        split at h
        · rename_i t g4
          cases hb : nxtB a2 d2 && (entB a3 d2 && (isNone a1.guard && (isNone b1.guard && (isNone a2.guard && isNone a3.guard)))) with
          | false => rw [hb] at h; cases h
          | true =>
            rw [hb] at h
            simp only [cond_true, Option.some.injEq] at h
            subst h
            simp only [Bool.and_eq_true] at hb
            obtain ⟨k1, k2, k3, k4, k5', k6⟩ := hb
            refine ⟨rfl, e1, e2, e3, ?_, g2, ?_, g3, ?_, ?_, hN k3, hN k4, hN k5', hN k6⟩
            · unfold movB at g1
              split at g1
              · rename_i y hy; cases g1; exact hy
              · cases g1
            · unfold rngB at g4
              split at g4
              · rename_i t' y hy
                cases hyd : Nat.beq y d1 with
                | false => rw [hyd] at g4; cases g4
                | true =>
                  rw [hyd] at g4
                  simp only [cond_true, Option.some.injEq] at g4
                  subst g4
                  rw [hy, Nat.eq_of_beq_eq_true hyd]
              · cases g4
            · unfold nxtB at k1
              split at k1
              · rename_i y hy; rw [hy, Nat.eq_of_beq_eq_true k1]
              · cases k1
            · unfold entB at k2
              split at k2
              · rename_i y hy; rw [hy, Nat.eq_of_beq_eq_true k2]
              · cases k2
        · cases h
      · cases h
    · cases h
  · cases h

/-- the iterator's block has other content, and the tape may have been asked -/
theorem trans_iter {g : Nat} {φ : Ph} {w1 : World} {o o' : Obj} (hz : Zi.In g) (hw : w1 = w ∨ w1 = w.drew) (ho : w.heap[g]? = some o) (hf : ∀ x y z, o ≠ .cells x y z) (hf' : ∀ x y z, o' ≠ .cells x y z) : Trans Zi.In φ w φ (ChangeMaps.setBlock w1 g o') := by
  have hh : w1.heap = w.heap := by rcases hw with rfl | rfl <;> rfl
  refine ⟨.refl _, fun b hb hl => ?_, fun _ _ _ => rfl, ?_, ?_⟩
  · simp only [ChangeMaps.setBlock, hh]
    rw [Array.getElem?_setIfInBounds_ne (by intro he; subst he; exact hb hz)]
  · simp [ChangeMaps.setBlock, hh]
  · refine ⟨by rcases hw with rfl | rfl <;> rfl, by rcases hw with rfl | rfl <;> rfl, by rcases hw with rfl | rfl <;> rfl, fun x => ?_⟩
    unfold World.frozen?
    by_cases hx : x.block = g
    · have hl := lt_of_heap ho
      have e1 : (ChangeMaps.setBlock w1 g o').heap[x.block]? = some o' := by rw [hx]; simp [ChangeMaps.setBlock, hh, hl]
      rw [e1, hx, ho]
      cases o <;> cases o' <;> first | rfl | (exfalso; exact hf _ _ _ rfl) | (exfalso; exact hf' _ _ _ rfl)
    · have e1 : (ChangeMaps.setBlock w1 g o').heap[x.block]? = w.heap[x.block]? := by
        simp only [ChangeMaps.setBlock, hh]
        rw [Array.getElem?_setIfInBounds_ne (Ne.symm hx)]
      rw [e1]
end
end Dn
/-
  Going through a map, in whatever order: it does what is said. Conditions: none.
-/
set_option linter.unusedSimpArgs false
set_option linter.unusedVariables false
namespace Dn
open Go

section
variable {P : Program} {c : Ctx} {Z Zb Zi : Zone} {e e' e3 : Env} {st st' st3 B : St} {a a' : Act} {w w' : World} {R : Type} {r : R} {Q : Exit → Act → World → Prop} {o : Oper} {hn : Hint}

theorem wpOp_free {ops : Array Oper} {i : Nat} {nx : Act → World → Prop} (hi : ops[i]? = some o) (hg : o.guard = none) (h : o.wp P a w nx Q) : wpOp P ops Q i nx a w := by
  unfold wpOp
  simp only [hi]
  have : Region.wanted o (yielded ops a.tmps) = true := by unfold Region.wanted; rw [hg]
  rw [this]
  simp only [if_true]
  exact .inl h
theorem wp_first {id : Nat} {ops : Array Oper} {l : List Oper} {nx : Act → World → Prop} (hl : ops.toList = o :: l) (hg : o.guard = none) (h : o.wp P a w nx Q)
    (hn : ∀ a' w', nx a' w' → wpOps P ops Q ((List.range l.length).map (· + 1)) a' w') : (Code.region id ops false).wp P Q a w := by
  refine wp_region ?_
  have hs : ops.size = l.length + 1 := by rw [← Array.length_toList, hl]; rfl
  rw [hs, List.range_succ_eq_map, wpOps_cons]
  have h0 : ops[0]? = some o := by rw [← Array.getElem?_toList, hl]; rfl
  exact wpOp_mono hn (wpOp_free h0 hg h)
theorem tail_map {ops : Array Oper} {l : List Oper} (hl : ops.toList = o :: l) : ((List.range l.length).map (· + 1)).map (ops[·]?) = l.map some := by
  apply List.ext_getElem?
  intro i
  simp only [List.getElem?_map]
  by_cases hi : i < l.length
  · have : ops[i + 1]? = l[i]? := by rw [← Array.getElem?_toList, hl]; rfl
    simp [List.getElem?_range hi, this, hi]
  · have h1 : (List.range l.length)[i]? = none := by simp; omega
    have h2 : l[i]? = none := by simp; omega
    rw [h1, h2]; rfl

/-- with a block more -/
def Zone.wd (Z : Zone) (g : Nat) : Zone := { Z with In := fun b => Z.In b ∨ b = g }
/-- an iterator's block is no variable's, and no family's -/
theorem iter_apart {g : Nat} {m : Option Nat} {s : Nat} {seen : Array Nat} {k : Nat} (h : Sim c Z e st a w) (hg : w.heap[g]? = some (.mapIter m s seen k)) :
    (∀ t cs, fget st.fr t = .box cs → e.B t ≠ g) ∧ (∀ f o, oget st.fams f = some o → (e.E f).ownBlock ≠ some g) := by
  refine ⟨fun t cs ht he => ?_, fun f o ho he => ?_⟩
  · have hs := h.slot t
    rw [ht] at hs
    obtain ⟨ob, h1, h2⟩ := hs.2.obj
    rw [he, hg] at h1
    cases h1
    exact h2.elim
  · obtain ⟨I, cells, _, _, h3, _⟩ := (h.fam f o ho).row
    rcases h3.2 with ⟨h1, _⟩ | ⟨g', cap, cur, h1, _, h2, _⟩
    · rw [h1] at he; cases he
    · rw [h1] at he
      simp only [Value.ownBlock, Option.some.injEq] at he
      subst he
      rw [hg] at h2; cases h2
theorem Joins.wide {g : Nat} {m : Option Nat} {s : Nat} {seen : Array Nat} {k : Nat} (j : Joins c Zb Zi e B hn a w) (hz : Zb.In g) (hg : w.heap[g]? = some (.mapIter m s seen k)) : Joins c Zb (Zi.wd g) e B hn a w := by
  obtain ⟨h1, h2⟩ := iter_apart j.sim hg
  exact ⟨j.sim, fun b hb => hb.elim (j.sub b) (fun he => by rw [he]; exact hz), fun b hb => .inl (j.new b hb), j.prot, j.T, j.keys, fun t cs ht hz => hz.elim (j.box t cs ht) (h1 t cs ht), fun f o b ho hb hz => hz.elim (j.fam f o b ho hb) (fun he => h2 f o ho (by rw [hb, he])), j.outK, j.outF, j.ptr, j.men⟩
theorem Joins.simW {g : Nat} (j : Joins c Zi Zi e B hn a w) : Sim c (Zi.wd g) e B a w := by
  have h := j.sim
  have hm : e.m = B.fams := h.m
  have := h.sub (Zi := Zi.wd g) (st' := B) (fun _ h => h) ⟨h.defers.2.1, h.defers.2.2.1, h.defers.2.2.2⟩ h.nodup (fun t => .inr ⟨j.ptr t, .inl rfl⟩) (fun f o ho => ⟨o, ho, rfl, rfl, id⟩)
    (by
      intro t cs ht
      have hs := h.slot t
      rw [ht] at hs
      rcases hs.2.zone with h1 | h1
      · exact .inl h1
      · exact .inr (.inl h1))
    (by
      intro f o b ho hb
      obtain ⟨I, cells, _, _, _, _, g5⟩ := (h.fam f o ho).row
      rcases (g5 b hb).1 with h1 | h1
      · exact .inl h1
      · exact .inr (.inl h1))
    (by
      intro f o I cells b ho hp hz hI hown hb k hk
      obtain ⟨I', cells', g1, _, g3, _, g5⟩ := (h.fam f o ho).row
      rw [hI] at g1
      cases g1
      rw [owns_unique hown g3 hb] at hk ⊢
      exact (g5 b hb).2.2 hp hz k hk)
    (fun b hb => .inl (j.new b hb))
  have he : { e with m := B.fams } = e := by cases e; simp at hm ⊢; exact hm.symm
  rw [he] at this
  exact this
theorem Joins.wide2 {g : Nat} {m : Option Nat} {s : Nat} {seen : Array Nat} {k : Nat} (j : Joins c Zi Zi e B hn a w) (hg : w.heap[g]? = some (.mapIter m s seen k)) : Joins c (Zi.wd g) (Zi.wd g) e B hn a w := by
  obtain ⟨h1, h2⟩ := iter_apart j.sim hg
  exact ⟨j.simW, fun b hb => hb, fun b hb => .inl (j.new b hb), j.prot, j.T, j.keys, fun t cs ht hz => hz.elim (j.box t cs ht) (h1 t cs ht), fun f o b ho hb hz => hz.elim (j.fam f o b ho hb) (fun he => h2 f o ho (by rw [hb, he])), j.outK, j.outF, j.ptr, j.men⟩

theorem exit_block {k n : Nat} (h : Q (exitOf (bif Nat.beq n (k + 2) then 0 else n)) a w) : Exit.inBlock k Q (exitOf n) a w := by
  by_cases hk : n = k + 2
  · subst hk
    simp only [nbeq, decide_true, cond_true] at h
    simpa [exitOf, Exit.inBlock] using h
  · simp only [nbeq, hk, decide_false, cond_false] at h
    match n, hk, h with
    | 0, _, h => exact h
    | 1, _, h => exact h
    | i + 2, hk, h =>
      have hi : i ≠ k := fun he => hk (by rw [he])
      simpa [exitOf, Exit.inBlock, hi] using h

theorem mem_getElem? {α : Type} {l : List α} {i : Nat} {x : α} (h : l[i]? = some x) : x ∈ l := List.mem_of_getElem? h

theorem rng_ok (hG : Good P c) (hD : Draws P c) {q : Rng} {code : Code} (hq : rngAt code = some q) {K : Nat → St → Option R} (h : Sim c Z e st a w) (hK : rngK c q st K = some r)
    (hQ : ∀ n e' st' a' w', Sim c Z e' st' a' w' → Trans Z.In e.φ w e'.φ w' → K n st' = some r → Q (exitOf n) a' w') : code.wp P Q a w := by
  obtain ⟨rfl, l1, l2, l3, m1, m2, m3, m4, m5, m6, g1, g2, g3, g4⟩ := rngAt_spec hq
  unfold rngK at hK
  unfold Rng.code
  refine wp_seq ?_
  obtain ⟨hx, hrx⟩ := h.eval q.x
  refine wp_first l1 g1 (fin (v := a.eval q.x) (s := evalO c st q.x) (by simp [execOp, m1]) h (.refl _ _ _) (.of hx hrx) (by rw [m2]; exact hK)) ?_
  rintro a1 w1 ⟨e1, st1, h1, t1, hK1⟩
  try dsimp only at hK1
  obtain ⟨hv1, _⟩ := h1.eval (.tmp q.d1)
  split at hK1
  · rename_i root s0 hr0 hs0
    rw [hr0] at hv1
    split at hK1
    · rename_i s es0 hbox
      cases hp : psB root || !msB s s0 with
      | true => rw [hp] at hK1; cases hK1
      | false =>
        rw [hp] at hK1
        simp only [cond_false] at hK1
        simp only [Bool.or_eq_false_iff, Bool.not_eq_false'] at hp
        obtain ⟨hps, hms⟩ := hp
        have hms := msB_of hms
        subst hms
        have hit := msOf_it hs0
        simp only [SlotRep] at hv1
        have hsl := h1.slot root
        rw [hbox] at hsl
        obtain ⟨ob, ho1, ho2⟩ := hsl.2.obj
        obtain ⟨arr, clock, rfl, hm0⟩ : ∃ arr clock, ob = .map arr clock ∧ MapOK s arr clock es0 := by
          cases ob with
          | cells x y z => exact absurd ho2.2.notMp (by simp [isMp])
          | map arr clock =>
            obtain ⟨s2, ms2, k1, k2, k3⟩ := ho2
            simp only [List.cons.injEq, Leaf.mp.injEq, and_true] at k1
            obtain ⟨rfl, rfl⟩ := k1
            exact ⟨arr, clock, rfl, k3⟩
          | stringIter b pos =>
            have k1 : [Leaf.mp s es0] = [Leaf.mp MS.it _] := ho2
            simp only [List.cons.injEq, Leaf.mp.injEq, and_true] at k1
            rw [k1.1] at hit; cases hit
          | _ => exact ho2.elim
        obtain ⟨kt, el, hty, _⟩ := (hG.mt q.t s hs0).row
        have hrun := run_range_map (P := P) w1 q.t kt el (e1.B root) arr clock hty ho1
        obtain ⟨hnb, hnp, hlt⟩ := setDst_nobox hK1
        have hne : root ≠ q.d2 := by intro he; rw [← he, hbox] at hnb; cases hnb
        -- the iterator
        have hgr : Grow w1 (w1.alloc (.mapIter (some (e1.B root)) clock #[] clock)) := by
          refine ⟨by simp, fun k hk => heapOld w1 _ k hk, ⟨rfl, rfl, rfl, fun x => ?_⟩⟩
          by_cases hx : x.block = w1.heap.size
          · have e1' : (w1.alloc (.mapIter (some (e1.B root)) clock #[] clock)).heap[x.block]? = some (.mapIter (some (e1.B root)) clock #[] clock) := by rw [hx]; exact heapNew w1 _
            have e2 : w1.heap[x.block]? = none := by rw [hx]; simp
            simp [World.frozen?, e1', e2]
          · exact World.frozen?_alloc_old _ _ _ hx
        rw [List.length_singleton]
        show wpOps P q.o1 _ [1] a1 w1
        rw [wpOps_cons]
        have hi1 : q.o1[1]? = some q.b1 := by rw [← Array.getElem?_toList, l1]; rfl
        refine wpOp_free hi1 g2 ?_
        unfold Oper.wp
        have hex : (execOp a1.eval q.b1).run P w1 = .ok (.value (.pointer (some ⟨w1.heap.size, 0, none⟩))) (w1.alloc (.mapIter (some (e1.B root)) clock #[] clock)) := by
          simp [execOp, m3, hv1, hrun, Result.andThen]
        rw [hex, Oper.upon_value, m4]
        obtain ⟨e2, st2, h2, hK2, hφ2⟩ := setDst_sim (v := .pointer (some ⟨w1.heap.size, 0, none⟩)) (s := .sc .un) (h1.grow hgr) (by simp [NewRep, SlotRep, rootOK]) hK1
        have ht2 : (a1.put (some q.d2) (.pointer (some ⟨w1.heap.size, 0, none⟩))).tmps.getD q.d2 undef = .pointer (some ⟨w1.heap.size, 0, none⟩) := by
          rw [Act.put_getD (by rw [h1.size]; exact hlt), if_pos rfl]
        have hto : ∀ t, t ≠ q.d2 → (a1.put (some q.d2) (.pointer (some ⟨w1.heap.size, 0, none⟩))).tmps.getD t undef = a1.tmps.getD t undef := fun t ht => by
          rw [Act.put_getD (by rw [h1.size]; exact hlt), if_neg ht]
        generalize a1.put (some q.d2) (.pointer (some ⟨w1.heap.size, 0, none⟩)) = a2 at h2 ht2 hto ⊢
        have hib : (w1.alloc (.mapIter (some (e1.B root)) clock #[] clock)).heap[w1.heap.size]? = some (.mapIter (some (e1.B root)) clock #[] clock) := heapNew w1 _
        have hbm : (w1.alloc (.mapIter (some (e1.B root)) clock #[] clock)).heap[e1.B root]? = some (.map arr clock) := by rw [heapOld w1 _ _ (lt_of_heap ho1)]; exact ho1
        have hzib : Z.In w1.heap.size := h1.zone _ (Nat.le_refl _)
        have t12 : Trans Z.In e.φ w e2.φ (w1.alloc (.mapIter (some (e1.B root)) clock #[] clock)) := by rw [hφ2]; exact t1.trans (hgr.trans h1.zone _)
        have hroot1 : a1.tmps.getD root undef = .map (some (e1.B root)) := by
          have := hsl.1.1 hps
          rw [this]; simp [bptr, isMa, hit]
        generalize hbq : e1.B root = bm at *
        generalize hiq : w1.heap.size = ib at *
        generalize w1.alloc (.mapIter (some bm) clock #[] clock) = w2 at *
        clear hrun hex hgr ho1
        -- the loop
        show (Code.block q.k (.loop q.body)).wp P Q a2 w2
        refine wp_block (wp_loop_rounds (arr.size + 1) ?_)
        generalize hhn : c.lop q.i2 = hn at hK2
        obtain ⟨Zi, e3, e4, st3, st4, h3, t3, hφ, hk, j1, j2, hsub, hty2, hK3⟩ := begin_ok h2 hK2
        split at hK3
        · rename_i s2 es houts hbox4
          cases hch : s2.st || (!kdsB s2.lay [.s] || (s2.b || !nmem st4.prot q.d2)) with
          | true => rw [hch] at hK3; cases hK3
          | false =>
            rw [hch] at hK3
            simp only [cond_false] at hK3
            simp only [Bool.or_eq_false_iff, Bool.not_eq_false'] at hch
            obtain ⟨c1, c2, c3, c4⟩ := hch
            have c2 := kdsB_of c2
            obtain ⟨⟨n, ms⟩, hR, hK4⟩ := bd_some hK3
            have hK4 := exs_some hK4
            obtain ⟨hall, hdone⟩ := rangeM_spec hR
            have hd2 : q.d2 ∈ Zi.prot := by rw [← j2.sim.defers.2.1]; exact (nmem_iff _ _).1 c4
            have hTd : Zi.T q.d2 = .pointer (some ⟨ib, 0, none⟩) := by rw [← j2.T _ hd2]; exact ht2
            have hs4 := j2.sim.slot root
            rw [hbox4] at hs4
            have hit2 : isIt s2 = false := by simp [isIt, c2]
            have hb4 : e4.B root = bm := by
              have := hs4.1.1 hps
              rw [hto root hne, hroot1] at this
              simp [bptr, isMa, hit2] at this
              exact this.symm
            have hm4 : MapOK s2 arr clock es := by
              obtain ⟨ob, k1, k2⟩ := hs4.2.obj
              rw [hb4, hbm] at k1
              cases k1
              obtain ⟨s3, ms3, k3, _, k4⟩ := k2
              simp only [List.cons.injEq, Leaf.mp.injEq, and_true] at k3
              obtain ⟨rfl, rfl⟩ := k3
              exact k4
            have hnz : ¬ Zi.In bm := by have := j2.box root _ hbox4; rwa [hb4] at this
            have hbi : bm ≠ ib := by intro he; rw [he, hib] at hbm; cases hbm
            have hborn : ∀ (i : Nat) (x : MapEntry), arr[i]? = some x → x.born = i ∧ ∃ m, es[i]? = some m ∧ EntOK s2 x m i := by
              intro i x hx
              have hi : i < es.length := by rw [← hm4.size]; exact (Array.getElem?_eq_some_iff.1 hx).1
              have he := hm4.ent i x es[i] hx (List.getElem?_eq_getElem hi)
              exact ⟨he.1, es[i], List.getElem?_eq_getElem hi, he⟩
            have hold : ∀ x ∈ arr.toList, x.born < clock := by
              intro x hx
              obtain ⟨i, hi, he⟩ := List.mem_iff_getElem.1 hx
              have hx2 : arr[i]? = some x := by rw [← Array.getElem?_toList, List.getElem?_eq_getElem hi, he]
              rw [(hborn i x hx2).1, hm4.clock, ← hm4.size]
              simpa using hi
            have hnd : (arr.toList.map (·.born)).Nodup := by
              have : arr.toList.map (·.born) = List.range arr.toList.length := by
                apply List.ext_getElem?
                intro i
                rw [List.getElem?_map]
                by_cases hi : i < arr.toList.length
                · rw [List.getElem?_eq_getElem hi, List.getElem?_range hi]
                  have hx2 : arr[i]? = some arr.toList[i] := by rw [← Array.getElem?_toList, List.getElem?_eq_getElem hi]
                  simp only [Option.map_some, (hborn i _ hx2).1]
                · rw [List.getElem?_eq_none (by omega), List.getElem?_eq_none (by simp at hi ⊢; omega)]; rfl
              rw [this]; exact List.nodup_range
            have hzw : (Zi.wd ib).prot = Zi.prot := rfl
            have key : ∀ (k : Nat) (φ : Ph) (a : Act) (w : World) (seen : Array Nat), Joins c Z (Zi.wd ib) { e4 with φ := φ } (after_ st2 st4) hn a w → Joins c (Zi.wd ib) (Zi.wd ib) { e4 with φ := φ } st4 hn a w →
                Trans Z.In e2.φ w2 φ w → w.heap[ib]? = some (.mapIter (some bm) clock seen clock) → w.heap[bm]? = some (.map arr clock) →
                (∀ b ∈ seen.toList, ∃ m, es[b]? = some m ∧ rngE c q st4 m = some (.inl ())) → (leftOf arr seen).size < k → Code.rounds P q.body (Exit.inBlock q.k Q) k a w := by
              intro k
              induction k with
              | zero => intro φ a w seen _ _ _ _ _ _ hl; omega
              | succ k ih =>
                intro φ a w seen j1 j2 t0 hib hbm hseen hl
                have hibl := lt_of_heap hib
                have hbml := lt_of_heap hbm
                have hval : a.tmps.getD q.d2 undef = .pointer (some ⟨ib, 0, none⟩) := by rw [j2.T _ hd2]; exact hTd
                -- a way out
                have leave : ∀ (n' : Nat) (e6 : Env) (st6 : St) (a6 : Act) (w6 : World) (w' : World) (vs : List MV), Joins c Z (Zi.wd ib) { e4 with φ := φ } (after_ st2 st4) hn a w' → Trans Z.In e2.φ w2 φ w' → ib < w'.heap.size →
                    Sim c ((Zi.wd ib).cv ib) e6 st6 a6 w6 → Trans ((Zi.wd ib).cv ib).In φ w' e6.φ w6 → TO st6 [] (hn.ex n') vs → (n', vs) = (n, ms) → Exit.inBlock q.k Q (exitOf n') a6 w6 := by
                  intro n' e6 st6 a6 w6 w' vs jj tt hl' h6 t6 hT heq
                  cases heq
                  have jl := (jj.carve hl').later t6 h6.imm h6.defers.1 h6.size h6.defers.2.2.2
                  obtain ⟨s1, s2, s3⟩ := ex_sub (hn := hn) (e := n)
                  obtain ⟨e7, st7, q1, q2, q3⟩ := give_ok jl h6 rfl ⟨s1, s2⟩ (s3 hty2) hT hK4
                  refine exit_block (hQ _ e7 st7 a6 w6 q1 ?_ q3)
                  rw [q2]
                  exact t12.trans (tt.trans (t6.sup fun b hb => jj.sub b hb.1))
                rw [rounds_succ]
                unfold Rng.body
                refine wp_seq ?_
                rcases run_next_at (P := P) w q.a2.type ib bm clock clock seen arr clock hib hbm hold (Nat.le_refl _) with ⟨hz, hnx⟩ | ⟨x, hxm, w1', hw1, hnx⟩
                · have hD1 : rngD c q st4 = some (n, ms) := by
                    refine hdone fun m hm => ?_
                    obtain ⟨i, hi, he⟩ := List.mem_iff_getElem.1 hm
                    have hia : i < arr.size := by rw [hm4.size]; exact hi
                    have hx2 : arr[i]? = some arr[i] := Array.getElem?_eq_getElem hia
                    have hs := all_seen arr seen hz arr[i] (by simp)
                    rw [(hborn i _ hx2).1] at hs
                    obtain ⟨m', k1, k2⟩ := hseen i (by simpa using hs)
                    rw [List.getElem?_eq_getElem hi, he] at k1
                    cases k1
                    exact k2
                  unfold rngD at hD1
                  have hex : (execOp a.eval q.a2).run P w = .ok (.value (.tuple #[.bool false])) w := by
                    have hv : a.eval (.tmp q.d2) = .pointer (some ⟨ib, 0, none⟩) := hval
                    simp [execOp, m5, hv, hnx, Result.andThen]
                  refine wp_first l2 g3 (fin (s := .tup [.sc (.p (.b false))]) hex (j2.simIn hibl) (.refl _ _ _) ⟨?_, trivial⟩ hD1) ?_
                  · simp only [SlotRep]
                    exact ⟨_, rfl, .bool false, _, rfl, mk_b _, rfl, rfl⟩
                  · rintro a5 w5 ⟨e5, st5, h5, t5, hK5⟩
                    try dsimp only at hK5
                    refine ops_ok hG (tail_map l2) h5 hK5 t5 ?_
                    rintro a6 w6 ⟨e6, st6, h6, t6, hK6⟩
                    try dsimp only at hK6
                    obtain ⟨hcx, _⟩ := h6.eval q.cx
                    split at hK6
                    · rename_i hb
                      rw [hb] at hcx
                      obtain ⟨vs, hT, heq⟩ := takeO_spec hK6
                      simp only [Option.some.injEq] at heq
                      rw [hhn] at hT
                      refine wp_seq (wp_cond_false (rep_b hcx) (wp_exit ?_))
                      exact leave (q.kx + 2) e6 st6 a6 w6 w vs j1 t0 hibl h6 t6 hT heq
                    · cases hK6
                · obtain ⟨hxa, hxs⟩ := mem_left hxm
                  obtain ⟨i, hi, he⟩ := List.mem_iff_getElem.1 hxa
                  have hx2 : arr[i]? = some x := by rw [← Array.getElem?_toList, List.getElem?_eq_getElem hi, he]
                  obtain ⟨hbx, m, hme, hent⟩ := hborn i x hx2
                  obtain ⟨_, ks, v, rfl, hks, hxk, hvb, hxv⟩ := hent
                  have hmm := mem_getElem? hme
                  obtain ⟨res, hres, hcase⟩ : ∃ res, rngE c q st4 (.tup [.agg ks, v]) = some res ∧ (res = .inl () ∨ res = .inr (n, ms)) := by
                    rcases hall _ hmm with h | h
                    · exact ⟨_, h, .inl rfl⟩
                    · exact ⟨_, h, .inr rfl⟩
                  -- what the entry is
                  obtain ⟨key0, rfl⟩ : ∃ key0, ks = [.s key0] := by
                    rw [c2] at hks
                    match ks, hks with
                    | [.s l], _ => exact ⟨l, rfl⟩
                  obtain ⟨n0, rfl⟩ : ∃ n0, v = .i .i64 n0 := by
                    rw [c3] at hvb
                    match v, hvb with
                    | .i .i64 n0, _ => exact ⟨n0, rfl⟩
                  have hxk : x.key = .string ⟨key0.toArray⟩ := by rw [hxk, c1]; rfl
                  have hxv : x.val = .int .i64 n0 := by rw [hxv, c3]; rfl
                  have hres0 := hres
                  unfold rngE at hres
                  simp only [entT, gT, gC, gA, gN, gS, gI, decide_true, cond_true] at hres
                  have hzi : (Zi.wd ib).In ib := .inr rfl
                  have htr : Trans (Zi.wd ib).In φ w φ (ChangeMaps.setBlock w1' ib (.mapIter (some bm) clock (seen.push x.born) clock)) :=
                    trans_iter hzi hw1 hib (fun _ _ _ h => by cases h) (fun _ _ _ h => by cases h)
                  have hh1 : w1'.heap = w.heap := by rcases hw1 with rfl | rfl <;> rfl
                  have hib' : (ChangeMaps.setBlock w1' ib (.mapIter (some bm) clock (seen.push x.born) clock)).heap[ib]? = some (.mapIter (some bm) clock (seen.push x.born) clock) := by
                    simp [ChangeMaps.setBlock, hh1, hibl]
                  have himm : Imm φ (ChangeMaps.setBlock w1' ib (.mapIter (some bm) clock (seen.push x.born) clock)) := by
                    intro b o u hu
                    have h0 := j2.sim.imm b o u hu
                    have hbne : b ≠ ib := by
                      intro hbe
                      subst hbe
                      have : w.cell? ⟨b, o, none⟩ = none := by simp [World.cell?, hib]
                      rw [this] at h0; cases h0
                    have hsame : (ChangeMaps.setBlock w1' ib (.mapIter (some bm) clock (seen.push x.born) clock)).heap[b]? = w.heap[b]? := by
                      simp only [ChangeMaps.setBlock, hh1]
                      rw [Array.getElem?_setIfInBounds_ne (Ne.symm hbne)]
                    rw [World.cell?_of_block hsame]; exact h0
                  have hbm' : (ChangeMaps.setBlock w1' ib (.mapIter (some bm) clock (seen.push x.born) clock)).heap[bm]? = some (.map arr clock) := by
                    simp only [ChangeMaps.setBlock, hh1]
                    rw [Array.getElem?_setIfInBounds_ne (Ne.symm hbi)]; exact hbm
                  generalize ChangeMaps.setBlock w1' ib (.mapIter (some bm) clock (seen.push x.born) clock) = w' at hnx htr hib' himm hbm'
                  have J1 := j1.later htr himm j1.sim.defers.1 j1.sim.size j1.T
                  have J2 := j2.later htr himm j2.sim.defers.1 j2.sim.size j2.T
                  have T0 := t0.trans (htr.sup j1.sub)
                  have hibl' := lt_of_heap hib'
                  have S := J2.simIn hibl'
                  have hex : (execOp a.eval q.a2).run P w = .ok (.value (.tuple #[.bool true, x.key, x.val])) w' := by
                    have hv : a.eval (.tmp q.d2) = .pointer (some ⟨ib, 0, none⟩) := hval
                    simp [execOp, m5, hv, hnx, Result.andThen]
                  have kS : ∀ ee : Env, SlotRep ee x.key (.sc (.p (.s key0))) := fun ee => by
                    have := mk_s (e := ee) ⟨key0.toArray⟩
                    rw [hxk]; simpa using this
                  have vS : ∀ ee : Env, SlotRep ee x.val (.sc (.p (.i .i64 n0))) := fun ee => by rw [hxv]; exact mk_i _ _
                  obtain ⟨e5, st5, h5, hK5, hφ5⟩ := setDst_sim (v := .tuple #[.bool true, x.key, x.val]) (s := .tup [.sc (.p (.b true)), .sc (.p (.s key0)), .sc (.p (.i .i64 n0))]) S ⟨by
                    simp only [SlotRep]
                    exact ⟨_, rfl, .bool true, _, rfl, mk_b _, rfl, x.key, _, rfl, kS _, rfl, x.val, [], rfl, vS _, rfl, rfl⟩, trivial⟩ hres
                  refine wp_first l2 g3 (nx := fun a5 w5 => a5 = a.put q.a2.dst (.tuple #[.bool true, x.key, x.val]) ∧ w5 = w') ?_ ?_
                  · unfold Oper.wp
                    rw [hex, Oper.upon_value]
                    exact ⟨rfl, rfl⟩
                  · rintro a5 w5 ⟨rfl, rfl⟩
                    refine ops_ok hG (tail_map l2) h5 hK5 (φ0 := φ) (w0 := w5) (by rw [hφ5]; exact .refl _ _ _) ?_
                    rintro a6 w6 ⟨e6, st6, h6, t6, hK6⟩
                    try dsimp only at hK6
                    obtain ⟨hcx, _⟩ := h6.eval q.cx
                    split at hK6
                    · rename_i hb
                      rw [hb] at hcx
                      refine wp_seq (wp_cond_true (rep_b hcx) (wp_skip ?_))
                      refine wp_block (wp_seq ?_)
                      have hnib : ¬ ((Zi.wd ib).cv ib).In ib := fun hz => hz.2 rfl
                      have hnbm : ¬ ((Zi.wd ib).cv ib).In bm := fun hz => hz.1.elim hnz hbi
                      have hib6 : w6.heap[ib]? = some (.mapIter (some bm) clock (seen.push x.born) clock) := by rw [t6.heap ib hnib hibl']; exact hib'
                      have hbm6 : w6.heap[bm]? = some (.map arr clock) := by rw [t6.heap bm hnbm (lt_of_heap hbm')]; exact hbm'
                      have hent6 := run_entry_at (P := P) w6 ib bm clock seen arr clock x hib6 hbm6 hxa hnd
                      have hval6 : a6.eval (.tmp q.d2) = .pointer (some ⟨ib, 0, none⟩) := by
                        have := h6.defers.2.2.2 q.d2 hd2
                        show a6.tmps.getD q.d2 undef = _
                        rw [this]; exact hTd
                      have hex6 : (execOp a6.eval q.a3).run P w6 = .ok (.value (.tuple #[x.key, x.val])) w6 := by
                        simp [execOp, m6, hval6, hent6, Result.andThen]
                      refine wp_first l3 g4 (fin (s := .tup [.sc (.p (.s key0)), .sc (.p (.i .i64 n0))]) hex6 h6 (.refl _ _ _) ⟨?_, trivial⟩ hK6) ?_
                      · simp only [SlotRep]
                        exact ⟨_, rfl, x.key, _, rfl, kS _, rfl, x.val, [], rfl, vS _, rfl, rfl⟩
                      · rintro a7 w7 ⟨e7, st7, h7, t7, hK7⟩
                        try dsimp only at hK7
                        refine ops_ok hG (tail_map l3) h7 hK7 (t6.trans t7) ?_
                        rintro a8 w8 ⟨e8, st8, h8, t8, hK8⟩
                        try dsimp only at hK8
                        refine code_ok hG hD q.rest h8 hK8 ?_
                        intro n' e9 st9 a9 w9 h9 t9 hK9
                        try dsimp only at hK9
                        have t89 := t8.trans t9
                        cases hgo : Nat.beq n' 0 || Nat.beq n' (q.k5 + 2) with
                        | true =>
                          rw [hgo] at hK9
                          simp only [cond_true, Option.some.injEq] at hK9
                          have hend : Code.rounds P q.body (Exit.inBlock q.k Q) k a9 w9 := by
                            have tW : Trans (Zi.wd ib).In φ w5 e9.φ w9 := t89.sup fun b hb => hb.1
                            refine ih e9.φ a9 w9 (seen.push x.born) (J1.later tW h9.imm h9.defers.1 h9.size h9.defers.2.2.2) (J2.later tW h9.imm h9.defers.1 h9.size h9.defers.2.2.2) (T0.trans (tW.sup j1.sub)) ?_ ?_ ?_ ?_
                            · rw [t89.heap ib hnib hibl']; exact hib'
                            · rw [t89.heap bm hnbm (lt_of_heap hbm')]; exact hbm'
                            · intro b hbm2
                              simp only [Array.toList_push, List.mem_append, List.mem_singleton] at hbm2
                              rcases hbm2 with hbm2 | rfl
                              · exact hseen b hbm2
                              · rw [hbx]; exact ⟨_, hme, by rw [hres0, ← hK9]⟩
                            · have := left_shrinks arr seen x hxm
                              omega
                          refine exit_block (Q := Exit.then (Code.rounds P q.body (Exit.inBlock q.k Q) k) (Exit.inBlock q.k Q)) ?_
                          have : (bif Nat.beq n' (q.k5 + 2) then 0 else n') = 0 := by
                            rcases Bool.or_eq_true_iff.1 hgo with h | h
                            · have := Nat.eq_of_beq_eq_true h; subst this; cases Nat.beq 0 (q.k5 + 2) <;> rfl
                            · rw [h]; rfl
                          rw [this]
                          exact hend
                        | false =>
                          rw [hgo] at hK9
                          simp only [cond_false] at hK9
                          obtain ⟨vs, hT, heq⟩ := takeO_spec hK9
                          simp only [Option.some.injEq] at heq
                          rw [hhn] at hT
                          simp only [Bool.or_eq_false_iff] at hgo
                          have hn0 : n' ≠ 0 := by intro he; rw [he] at hgo; simp [nbeq] at hgo
                          have heq2 : (n', vs) = (n, ms) := by
                            rcases hcase with h | h
                            · rw [h] at heq; cases heq
                            · rw [h] at heq; cases heq; rfl
                          have := leave n' e9 st9 a9 w9 w5 vs J1 T0 hibl' h9 t89 hT heq2
                          refine exit_block (Q := Exit.then (Code.rounds P q.body (Exit.inBlock q.k Q) k) (Exit.inBlock q.k Q)) ?_
                          rw [hgo.2]
                          simp only [cond_false]
                          rw [then_exit hn0]
                          exact this
                    · cases hK6
            have hφ4 : { e4 with φ := e4.φ } = e4 := by cases e4; rfl
            refine key (arr.size + 1) e4.φ a2 w2 #[] (by rw [hφ4]; exact j1.wide hzib hib) (by rw [hφ4]; exact j2.wide2 hib) (by rw [hφ]; exact t3) hib hbm (by simp) ?_
            have : (leftOf arr #[]).size ≤ arr.size := by unfold leftOf; exact Array.size_filter_le
            omega
        · cases hK3
    · cases hK1
  · cases hK1

end
end Dn
/-
  Functions of the library as table entries. Conditions: none.
-/
set_option linter.unusedVariables false
namespace Dn
open Go
def cloneF (size bytes : Nat) : List MV → Option MV
  | [.list xs] => bif wids size xs && Nat.ble (xs.length * bytes) (2 ^ 46) then some (.fresh xs) else none
  | _ => none
def insertF (bytes : Nat) : List MV → Option MV
  | [.fresh xs, .i .i64 i, .fresh ys] => bif decide (0 ≤ i) && (Nat.ble i.toNat xs.length && (!ys.isEmpty && Nat.ble ((xs.length + ys.length) * bytes) (2 ^ 46))) then some (.fresh (xs.take i.toNat ++ ys ++ xs.drop i.toNat)) else none
  | _ => none
theorem cloneF_some {size bytes : Nat} {ms : List MV} {r : MV} (h : cloneF size bytes ms = some r) : ∃ xs, ms = [.list xs] ∧ r = .fresh xs ∧ wids size xs = true ∧ xs.length * bytes ≤ 2 ^ 46 := by
  unfold cloneF at h
  split at h
  · rename_i xs
    cases hb : wids size xs && Nat.ble (xs.length * bytes) (2 ^ 46) with
    | false => simp [hb] at h
    | true =>
      simp only [hb, cond_true, Option.some.injEq] at h
      simp only [Bool.and_eq_true] at hb
      exact ⟨xs, rfl, h.symm, hb.1, Nat.le_of_ble_eq_true hb.2⟩
  · cases h
theorem insertF_some {bytes : Nat} {ms : List MV} {r : MV} (h : insertF bytes ms = some r) : ∃ xs ys i, ms = [.fresh xs, .i .i64 ((i : Nat) : Int), .fresh ys] ∧ r = .fresh (xs.take i ++ ys ++ xs.drop i) ∧ i ≤ xs.length ∧ ys ≠ [] ∧ (xs.length + ys.length) * bytes ≤ 2 ^ 46 := by
  unfold insertF at h
  split at h
  · rename_i xs i ys
    cases hb : decide (0 ≤ i) && (Nat.ble i.toNat xs.length && (!ys.isEmpty && Nat.ble ((xs.length + ys.length) * bytes) (2 ^ 46))) with
    | false => rw [hb] at h; cases h
    | true =>
      simp only [hb, cond_true, Option.some.injEq] at h
      simp only [Bool.and_eq_true, decide_eq_true_eq, Bool.not_eq_true'] at hb
      obtain ⟨h1, h2, h3, h4⟩ := hb
      refine ⟨xs, ys, i.toNat, ?_, h.symm, Nat.le_of_ble_eq_true h2, ?_, Nat.le_of_ble_eq_true h4⟩
      · rw [Int.toNat_of_nonneg h1]
      · intro hy; subst hy; simp at h3
  · cases h
theorem SoundG.none (P : Program) (c : Ctx) : SoundG P c (fun _ _ => Option.none) := ⟨fun f ms r h => by cases h⟩
theorem SoundG.add1 {P : Program} {c : Ctx} {g : Nat → List MV → Option MV} {n : Nat} {F : List MV → Option MV} (h : SoundG P c g) (hkey : ∀ f, c.key f = f) (hF : ∀ ms r, F ms = some r → Sound1 P c n ms r) : SoundG P c (addG n F g) :=
  h.add (fun f ms r hk hr => by
    rw [hkey] at hk
    rw [hk]
    exact hF ms r hr)
/-- the operations of a text, one after the other -/
def codeOps : Code → List Oper
  | .region _ ops _ => ops.toList
  | .seq x y => codeOps x ++ codeOps y
  | .cond _ x y => codeOps x ++ codeOps y
  | .block _ x => codeOps x
  | .loop x => codeOps x
  | _ => []
def opAt (fn : Func) (d : Oper) (k : Nat) : Oper := match fn.body with | some c => (codeOps c).getD k d | none => d
def insTail (o : Nat → Oper) : Code := .seq (.region 18 #[o 83, o 84, o 85, o 86, o 87] false) (.seq (.region 19 #[o 88, o 89, o 90, o 91, o 92] false) (.seq (.region 20 #[o 93, o 94] false) .ret))
def noOp : Oper := { dst := none, op := .move (.tmp 0), type := 0, pos := "", after := #[], guard := none }
end Dn
/-
  Reasoning about functions on values. Conditions: none.
-/
set_option linter.unusedVariables false
namespace Dn
open Go
section
variable {R : Type}
@[simp] theorem gB_b (x : Bool) (K : Bool → Option R) : gB (.b x) K = K x := (rfl)
@[simp] theorem gI_i (k : IntKind) (x : Int) (K : Int → Option R) : gI k (.i k x) K = K x := by simp [gI]
@[simp] theorem gS_s (x : List UInt8) (K : List UInt8 → Option R) : gS (.s x) K = K x := (rfl)
@[simp] theorem gL_l (x : List MV) (K : List MV → Option R) : gL (.list x) K = K x := (rfl)
@[simp] theorem gH_h (x : Hash) (K : Hash → Option R) : gH (.h x) K = K x := (rfl)
@[simp] theorem gA_a (x : List MV) (K : List MV → Option R) : gA (.agg x) K = K x := (rfl)
@[simp] theorem gT_t (x : List MV) (K : List MV → Option R) : gT (.tup x) K = K x := (rfl)
@[simp] theorem gF_f (x : List MV) (K : List MV → Option R) : gF (.fresh x) K = K x := (rfl)
@[simp] theorem gFn_f (f : Nat) (x : List MV) (K : Nat → List MV → Option R) : gFn (.func f x) K = K f x := (rfl)
@[simp] theorem gR_f (f : Nat) (x : List MV) (K : MV → Option R) : gR (.func f x) K = K (.func f x) := (rfl)
@[simp] theorem gC_c (m : MV) (r : List MV) (K : MV → List MV → Option R) : gC (m :: r) K = K m r := (rfl)
@[simp] theorem gN_n (K : Option R) : gN [] K = K := (rfl)
@[simp] theorem bd_s {α : Type} (a : α) (K : α → Option R) : bd (some a) K = K a := (rfl)
@[simp] theorem nbeq' (a b : Nat) : Nat.beq a b = decide (a = b) := nbeq a b
@[simp] theorem chk_true (K : Option R) : chk true K = K := (rfl)
@[simp] theorem ifB_true (x y : Option R) : ifB true x y = x := (rfl)
@[simp] theorem ifB_false (x y : Option R) : ifB false x y = y := (rfl)
theorem chk_of {c : Bool} (h : c = true) (K : Option R) : chk c K = K := by rw [h]; rfl
theorem idx_at (L : List MV) (k : Nat) (h : k < L.length) (K : MV → Option R) : idx L (k : Int) K = K L[k] := by
  simp [idx, idxO, h]
end
theorem wrap_id {x : Int} (h1 : -9223372036854775808 ≤ x) (h2 : x ≤ 9223372036854775807) : IntKind.wrap .i64 x = x := by rw [IntKind.wrap_i64]; omega
theorem mid_eq {i j : Nat} (h : i + j < 2 ^ 62) : IntKind.wrap .i64 (Int.fdiv (IntKind.wrap .u64 (IntKind.wrap .i64 ((i : Int) + (j : Int)))) (2 ^ min (Int.toNat 1) (IntKind.bits .u64))) = (((i + j) / 2 : Nat) : Int) := by
  have h1 : IntKind.wrap .i64 ((i : Int) + (j : Int)) = ((i + j : Nat) : Int) := by rw [IntKind.wrap_i64]; omega
  have h2 : IntKind.wrap .u64 ((i + j : Nat) : Int) = ((i + j : Nat) : Int) := by
    have : IntKind.wrap .u64 ((i + j : Nat) : Int) = ((i + j : Nat) : Int) % 18446744073709551616 := by simp [IntKind.wrap, IntKind.signed, IntKind.bits]
    rw [this]; omega
  have h3 : (2 : Int) ^ min (Int.toNat 1) (IntKind.bits .u64) = 2 := by decide
  rw [h1, h2, h3, Int.fdiv_eq_ediv_of_nonneg _ (by omega)]
  rw [IntKind.wrap_i64]; omega
section
variable {σ R : Type} {body : σ → Option (Sum σ R)}
theorem iter_mono {n : Nat} {s : σ} {r : R} (h : iter body n s = some r) : ∀ {m : Nat}, n ≤ m → iter body m s = some r := by
  induction n generalizing s with
  | zero => cases h
  | succ n ih =>
    intro m hm
    obtain ⟨m, rfl⟩ : ∃ k, m = k + 1 := ⟨m - 1, by omega⟩
    simp only [iter] at h ⊢
    cases hb : body s with
    | none => rw [hb] at h; cases h
    | some x =>
      rw [hb] at h
      cases x with
      | inl s' => exact ih h (by omega)
      | inr r' => exact h
theorem Loop_of_iter {n : Nat} {s : σ} {r : R} (h : iter body n s = some r) : Loop body s = some r := by
  have he : ∃ r n, iter body n s = some r := ⟨r, n, h⟩
  unfold Loop
  rw [dif_pos he]
  obtain ⟨m, hm⟩ := Classical.choose_spec he
  have h1 := iter_mono h (Nat.le_max_left n m)
  have h2 := iter_mono hm (Nat.le_max_right n m)
  rw [h1] at h2
  exact h2.symm
/-- a loop with an invariant and something that falls -/
theorem Loop_inv (I : σ → Prop) (μ : σ → Nat) (Q : R → Prop) (h : ∀ s, I s → (∃ s', body s = some (.inl s') ∧ I s' ∧ μ s' < μ s) ∨ (∃ r, body s = some (.inr r) ∧ Q r)) {s : σ} (hs : I s) : ∃ r, Loop body s = some r ∧ Q r := by
  have key : ∀ k s, I s → μ s < k → ∃ r, iter body k s = some r ∧ Q r := by
    intro k
    induction k with
    | zero => intro s _ h; omega
    | succ k ih =>
      intro s hs hk
      rcases h s hs with ⟨s', e, hi, hm⟩ | ⟨r, e, hq⟩
      · obtain ⟨r, e2, hq⟩ := ih s' hi (by omega)
        exact ⟨r, by simp only [iter, e]; exact e2, hq⟩
      · exact ⟨r, by simp only [iter, e], hq⟩
  obtain ⟨r, e, hq⟩ := key (μ s + 1) s hs (by omega)
  exact ⟨r, Loop_of_iter e, hq⟩
/-- a loop that counts up to some number: state k goes to state k + 1, or it ends -/
theorem Loop_nat (S : Nat → σ) (N : Nat) (Q : R → Prop) (P : Nat → Prop) (h0 : P 0) (h : ∀ k, k < N → P k → (body (S k) = some (.inl (S (k + 1))) ∧ P (k + 1)) ∨ (∃ r, body (S k) = some (.inr r) ∧ Q r)) (he : P N → ∃ r, body (S N) = some (.inr r) ∧ Q r) : ∃ r, Loop body (S 0) = some r ∧ Q r := by
  have key : ∀ d k, k + d = N → P k → ∃ r, iter body (d + 1) (S k) = some r ∧ Q r := by
    intro d
    induction d with
    | zero =>
      intro k hk hp
      have : k = N := by omega
      subst this
      obtain ⟨r, e, hq⟩ := he hp
      exact ⟨r, by simp only [iter, e], hq⟩
    | succ d ih =>
      intro k hk hp
      rcases h k (by omega) hp with ⟨e, hp'⟩ | ⟨r, e, hq⟩
      · obtain ⟨r, e2, hq⟩ := ih (k + 1) (by omega) hp'
        exact ⟨r, by rw [iter, e]; exact e2, hq⟩
      · exact ⟨r, by rw [iter, e], hq⟩
  obtain ⟨r, e, hq⟩ := key N 0 (by omega) h0
  exact ⟨r, Loop_of_iter e, hq⟩
end
end Dn
/-
  From functions on plain values to functions on typed values. Conditions: none.
-/
set_option linter.unusedVariables false
namespace Dn
open Go
/-- a list's length, once -/
def lenN {R : Type} (l : List MV) (K : Nat → Option R) : Option R := K l.length
/-- element i of a list -/
def ix {α R : Type} (l : List α) (i : Int) (K : α → Option R) : Option R :=
  match (if 0 ≤ i then l[i.toNat]? else none) with | some x => K x | none => none
/-- the bytes of a string, as numbers -/
def bysI (l : List UInt8) : List Int := l.map fun b => (b.toNat : Int)
@[simp] theorem bysM_eq (l : List UInt8) : bysM l = (bysI l).map (MV.i .u8) := by unfold bysM bysI; rw [List.map_map]; rfl
def tClone {α : Type} (bytes : Nat) (l : List α) : Option (List α) := if l.length * bytes ≤ 2 ^ 46 then some l else none
def tInsert {α : Type} (bytes : Nat) (xs : List α) (i : Int) (ys : List α) : Option (List α) :=
  if 0 ≤ i ∧ i.toNat ≤ xs.length ∧ ys ≠ [] ∧ (xs.length + ys.length) * bytes ≤ 2 ^ 46 then some (xs.take i.toNat ++ ys ++ xs.drop i.toNat) else none
@[reducible] def encL {α : Type} (f : α → MV) (l : List α) : MV := .list (l.map f)
@[reducible] def encF {α : Type} (f : α → MV) (l : List α) : MV := .fresh (l.map f)

/-- the one gives just what the other gives, as a plain value -/
def Sm {A B : Type} (g : B → A) (x : Option A) (y : Option B) : Prop := x = y.map g
section
variable {A B A' B' α : Type} {g : B → A} {T : Option B}
theorem Sm.at {x x' : Option A} (e : x = x') (h : Sm g x' T) : Sm g x T := e ▸ h
theorem st_gA {l : List MV} {K : List MV → Option A} (h : Sm g (K l) T) : Sm g (gA (.agg l) K) T := h
theorem st_gB {x : Bool} {K : Bool → Option A} (h : Sm g (K x) T) : Sm g (gB (.b x) K) T := h
theorem st_gS {x : List UInt8} {K : List UInt8 → Option A} (h : Sm g (K x) T) : Sm g (gS (.s x) K) T := h
theorem st_gL {x : List MV} {K : List MV → Option A} (h : Sm g (K x) T) : Sm g (gL (.list x) K) T := h
theorem st_gT {x : List MV} {K : List MV → Option A} (h : Sm g (K x) T) : Sm g (gT (.tup x) K) T := h
theorem st_gF {x : List MV} {K : List MV → Option A} (h : Sm g (K x) T) : Sm g (gF (.fresh x) K) T := h
theorem st_gFn {f : Nat} {x : List MV} {K : Nat → List MV → Option A} (h : Sm g (K f x) T) : Sm g (gFn (.func f x) K) T := h
theorem st_gRf {f : Nat} {x : List MV} {K : MV → Option A} (h : Sm g (K (.func f x)) T) : Sm g (gR (.func f x) K) T := h
theorem st_gRr {v : Value} {K : MV → Option A} (h : Sm g (K (.raw v)) T) : Sm g (gR (.raw v) K) T := h
theorem st_gI {k : IntKind} {n : Int} {K : Int → Option A} (h : Sm g (K n) T) : Sm g (gI k (.i k n) K) T := by simpa using h
theorem st_gC {m : MV} {r : List MV} {K : MV → List MV → Option A} (h : Sm g (K m r) T) : Sm g (gC (m :: r) K) T := h
theorem st_gN {K : Option A} (h : Sm g K T) : Sm g (gN [] K) T := h
theorem st_bd {x : Option A'} {y : Option B'} {f : B' → A'} {K : A' → Option A} {K' : B' → Option B} (h : Sm f x y) (hk : ∀ b, Sm g (K (f b)) (K' b)) : Sm g (bd x K) (bd y K') := by
  unfold Sm at h; subst h
  cases y with
  | none => rfl
  | some b => exact hk b
theorem st_if {p : Prop} [Decidable p] {X Y : Option A} {X' Y' : Option B} (h1 : Sm g X X') (h2 : Sm g Y Y') : Sm g (ifB (decide p) X Y) (if p then X' else Y') := by
  by_cases h : p <;> simpa [h] using (by assumption)
theorem st_ifb {c : Bool} {X Y : Option A} {X' Y' : Option B} (h1 : Sm g X X') (h2 : Sm g Y Y') : Sm g (ifB c X Y) (if c then X' else Y') := by
  cases c <;> simpa using (by assumption)
theorem st_chk {p : Prop} [Decidable p] {X : Option A} {X' : Option B} (h1 : Sm g X X') : Sm g (chk (decide p) X) (if p then X' else none) := by
  by_cases h : p
  · simpa [h] using h1
  · simp [h, chk, Sm]
theorem st_chkb {c : Bool} {X : Option A} {X' : Option B} (h1 : Sm g X X') : Sm g (chk c X) (if c then X' else none) := by
  cases c
  · simp [chk, Sm]
  · simpa using h1
theorem st_tt {c : Bool} {X : Option A} (hc : c = true) (h : Sm g X T) : Sm g (chk c X) T := by subst hc; exact h
theorem st_ifT {c : Bool} {X Y : Option A} (hc : c = true) (h : Sm g X T) : Sm g (ifB c X Y) T := by subst hc; exact h
theorem st_ifF {c : Bool} {X Y : Option A} (hc : c = false) (h : Sm g Y T) : Sm g (ifB c X Y) T := by subst hc; exact h
theorem st_len {l : List MV} {n : Nat} {K : Nat → Option A} (e : l.length = n) (h : Sm g (K n) T) : Sm g (lenN l K) T := by subst e; exact h
theorem st_idx {l : List MV} {M : List α} {f : α → MV} {i : Int} {K : MV → Option A} {K' : α → Option B} (e : l = M.map f) (h : ∀ y, Sm g (K (f y)) (K' y)) : Sm g (idx l i K) (ix M i K') := by
  subst e
  unfold idx idxO ix
  by_cases hi : 0 ≤ i
  · simp only [hi, if_true, List.getElem?_map]
    cases M[i.toNat]? with
    | none => rfl
    | some y => exact h y
  · simp only [hi, if_false]; rfl
theorem st_same {C : Type} {x : Option C} {K : C → Option A} {K' : C → Option B} (h : ∀ b, Sm g (K b) (K' b)) : Sm g (bd x K) (bd x K') := by
  cases x with
  | none => rfl
  | some b => exact h b
theorem st_gCx {a b : Nat} {K : Nat → Nat → Option A} (h : Sm g (K a b) T) : Sm g (gCx (.raw (.complex .f64 a b)) K) T := h
def bysT {R : Type} (l : List Int) (K : List UInt8 → Option R) : Option R := if l.all isByte then K (l.map fun n => UInt8.ofNat n.toNat) else none
theorem bysK_map {R : Type} {M : List Int} : ∀ {K : List UInt8 → Option R}, bysK (M.map (MV.i .u8)) K = bysT M K := by
  induction M with
  | nil => intro K; rfl
  | cons n M ih =>
    intro K
    simp only [List.map_cons, bysK, byK, gI, decide_true, cond_true, ih]
    cases h : isByte n <;> simp [chk, bysT, h]
theorem st_bys {l : List MV} {M : List Int} {K : List UInt8 → Option A} {K' : List UInt8 → Option B} (e : l = M.map (MV.i .u8)) (h : ∀ b, Sm g (K b) (K' b)) : Sm g (bysK l K) (bysT M K') := by
  subst e
  rw [bysK_map]
  unfold bysT
  split
  · exact h _
  · rfl
theorem st_some {d : A} {a : B} (e : d = g a) : Sm g (some d) (some a) := by subst e; rfl
theorem wids_of {n : Nat} {l : List MV} {M : List α} {f : α → MV} (e : l = M.map f) (h : ∀ x, (f x).w = n) : wids n l = true := by
  subst e
  unfold wids
  rw [List.all_map, List.all_eq_true]
  intro x _
  simp [h x]
theorem iter_map {σ σ' ρ ρ' : Type} {e : σ' → σ} {f : ρ' → ρ} {K : σ → Option (Sum σ ρ)} {K' : σ' → Option (Sum σ' ρ')} (h : ∀ s, Sm (Sum.map e f) (K (e s)) (K' s)) (n : Nat) (s : σ') : iter K n (e s) = (iter K' n s).map f := by
  induction n generalizing s with
  | zero => rfl
  | succ n ih =>
    have := h s
    unfold Sm at this
    simp only [iter, this]
    cases K' s with
    | none => rfl
    | some x => cases x with
      | inl s' => exact ih s'
      | inr r => rfl
theorem Loop_none {σ ρ : Type} {K : σ → Option (Sum σ ρ)} {s : σ} (h : ∀ n, iter K n s = none) : Loop K s = none := by
  unfold Loop
  rw [dif_neg]
  rintro ⟨r, n, e⟩
  rw [h] at e; cases e
theorem st_loop {σ σ' ρ ρ' : Type} {K : σ → Option (Sum σ ρ)} {K' : σ' → Option (Sum σ' ρ')} {d0 : σ} {s0 : σ'} (e : σ' → σ) (f : ρ' → ρ) (e0 : d0 = e s0) (h : ∀ s, Sm (Sum.map e f) (K (e s)) (K' s)) : Sm f (Loop K d0) (Loop K' s0) := by
  subst e0
  unfold Sm
  by_cases hx : ∃ r n, iter K' n s0 = some r
  · obtain ⟨r, n, hn⟩ := hx
    rw [Loop_of_iter hn]
    have : iter K n (e s0) = some (f r) := by rw [iter_map h, hn]; rfl
    rw [Loop_of_iter this]; rfl
  · have h1 : ∀ n, iter K' n s0 = none := fun n => by
      cases hn : iter K' n s0 with
      | none => rfl
      | some r => exact absurd ⟨r, n, hn⟩ hx
    rw [Loop_none h1, Loop_none fun n => by rw [iter_map h, h1]; rfl]; rfl
theorem e_clone {size bytes : Nat} {f : α → MV} (hw : ∀ x, (f x).w = size) (l : List α) : Sm (encF f) (cloneF size bytes [.list (l.map f)]) (tClone bytes l) := by
  unfold Sm cloneF tClone
  simp only [wids_of (rfl : l.map f = l.map f) hw, Bool.true_and, List.length_map]
  by_cases h : l.length * bytes ≤ 2 ^ 46
  · rw [show Nat.ble (l.length * bytes) (2 ^ 46) = true from Nat.ble_eq_true_of_le h, if_pos h]; rfl
  · rw [show Nat.ble (l.length * bytes) (2 ^ 46) = false from by rw [Bool.eq_false_iff]; intro hb; exact h (Nat.le_of_ble_eq_true hb), if_neg h]; rfl
theorem e_insert {bytes : Nat} {f : α → MV} (xs : List α) (i : Int) (ys : List α) : Sm (encF f) (insertF bytes [.fresh (xs.map f), .i .i64 i, .fresh (ys.map f)]) (tInsert bytes xs i ys) := by
  unfold Sm insertF tInsert
  simp only [List.length_map]
  have hb : ∀ a b : Nat, Nat.ble a b = decide (a ≤ b) := fun a b => by
    by_cases h : a ≤ b
    · rw [Nat.ble_eq_true_of_le h, decide_eq_true h]
    · rw [decide_eq_false h, Bool.eq_false_iff]; intro hh; exact h (Nat.le_of_ble_eq_true hh)
  rw [hb, hb]
  have he : (ys.map f).isEmpty = decide (ys = []) := by cases ys <;> simp
  rw [he]
  by_cases h1 : 0 ≤ i <;> by_cases h2 : i.toNat ≤ xs.length <;> by_cases h3 : ys = [] <;> by_cases h4 : (xs.length + ys.length) * bytes ≤ 2 ^ 46 <;> simp [h1, h2, h3, h4, encF]
end
/-- lists of arguments -/
abbrev lst0 (f : Option MV) : List MV → Option MV | [] => f | _ => none
abbrev lst1 (f : MV → Option MV) : List MV → Option MV | [a] => f a | _ => none
abbrev lst2 (f : MV → MV → Option MV) : List MV → Option MV | [a, b] => f a b | _ => none
abbrev lst3 (f : MV → MV → MV → Option MV) : List MV → Option MV | [a, b, c] => f a b c | _ => none
abbrev lst4 (f : MV → MV → MV → MV → Option MV) : List MV → Option MV | [a, b, c, d] => f a b c d | _ => none
theorem lst0_of {f : Option MV} {B : List MV → Option MV} (h : B [] = f) {ms : List MV} {r : MV} (e : lst0 f ms = some r) : B ms = some r := by
  unfold lst0 at e; split at e
  · rw [h]; exact e
  · cases e
theorem lst1_of {f : MV → Option MV} {B : List MV → Option MV} (h : ∀ a, B [a] = f a) {ms : List MV} {r : MV} (e : lst1 f ms = some r) : B ms = some r := by
  unfold lst1 at e; split at e
  · rw [h]; exact e
  · cases e
theorem lst2_of {f : MV → MV → Option MV} {B : List MV → Option MV} (h : ∀ a b, B [a, b] = f a b) {ms : List MV} {r : MV} (e : lst2 f ms = some r) : B ms = some r := by
  unfold lst2 at e; split at e
  · rw [h]; exact e
  · cases e
theorem lst3_of {f : MV → MV → MV → Option MV} {B : List MV → Option MV} (h : ∀ a b c, B [a, b, c] = f a b c) {ms : List MV} {r : MV} (e : lst3 f ms = some r) : B ms = some r := by
  unfold lst3 at e; split at e
  · rw [h]; exact e
  · cases e
theorem lst4_of {f : MV → MV → MV → MV → Option MV} {B : List MV → Option MV} (h : ∀ a b c d, B [a, b, c, d] = f a b c d) {ms : List MV} {r : MV} (e : lst4 f ms = some r) : B ms = some r := by
  unfold lst4 at e; split at e
  · rw [h]; exact e
  · cases e
/-- a function of the program's, as a function of its arguments -/
theorem SoundG.fn {P : Program} {c c' : Ctx} {g : Nat → List MV → Option MV} {n : Nat} {fn : Func} {caps : List (List Kd)} {F : List MV → Option MV} (h : SoundG P c g) (hl : Like c c') (hgg : c'.g = g) (hti : TIok P c.ti) (heq : EqOK P c.ti) (hfk : ∀ t k, c.fk t = some k → P.underlying t = some (.float k)) (hmt : MapTys P c) (hmix : P.follows .mixedOrders = true) (hdel : DelsOK P c)
    (hf : P.funcs[n]? = some fn) (hh : headB c' n fn caps = true) (hkey : ∀ f, c.key f = f) {fresh : Option Nat} (hfr : freshB c' n fn fresh = true) (hF : ∀ {ms r}, F ms = some r → bodyK c' caps fresh fn ms = some r) : SoundG P c (addG n F g) := by
  have hb := SoundG.body h hl hgg hti heq hfk hmt hmix hdel hf hh hkey hfr
  refine h.add (fun f ms r hk hr => ?_)
  refine hb.all f ms r ?_
  unfold addG
  rw [hk]
  simp [hF hr]
/-! ### slices.DeleteFunc -/
def tDelP {α : Type} (p : α → Option Bool) : List α → Option (List α)
  | [] => some []
  | x :: xs => bd (p x) fun b => bd (tDelP p xs) fun ys => some (if b then ys else x :: ys)
def tDelC {α σ : Type} (p : α → σ → Option (Bool × σ)) : σ → List α → Option (List α × σ)
  | s, [] => some ([], s)
  | s, x :: xs => bd (p x s) fun q => bd (tDelC p q.2 xs) fun r => some (if q.1 then r.1 else x :: r.1, r.2)
end Dn
/-
  A function's body in which a map is gone through, or a label stands. Conditions: none.
-/
set_option linter.unusedSimpArgs false
set_option linter.unusedVariables false
namespace Dn
open Go

section
variable {P : Program} {c : Ctx} {R : Type} {r : R}

theorem gotoB_spec {a b : Code} {l : Nat} (h : gotoB a b = some l) : a = .goto l ∧ b = .skip := by
  unfold gotoB at h
  split at h
  · cases h; exact ⟨rfl, rfl⟩
  · cases h
theorem codeG_ok (hG : Good P c) (hD : Draws P c) {l : Nat} {G : St → Option R} : ∀ (code : Code) {Z : Zone} {e : Env} {st : St} {a : Act} {w : World} {K : Nat → St → Option R} {Q : Exit → Act → World → Prop}, Sim c Z e st a w → codeG c l G code st K = some r →
    (∀ n e' st' a' w', Sim c Z e' st' a' w' → Trans Z.In e.φ w e'.φ w' → K n st' = some r → Q (exitOf n) a' w') →
    (∀ e' st' a' w', Sim c Z e' st' a' w' → Trans Z.In e.φ w e'.φ w' → G st' = some r → Q (.goto l) a' w') → code.wp P Q a w := by
  intro code
  induction code with
  | seq x y ihx ihy =>
    intro Z e st a w K Q h hK hQ hJ
    simp only [codeG] at hK
    refine wp_seq (ihx h hK ?_ ?_)
    · intro n e1 st1 a1 w1 h1 t1 hK1
      by_cases hn : n = 0
      · subst hn
        exact ihy h1 hK1 (fun n e2 st2 a2 w2 h2 t2 hK2 => hQ n e2 st2 a2 w2 h2 (t1.trans t2) hK2) (fun e2 st2 a2 w2 h2 t2 hK2 => hJ e2 st2 a2 w2 h2 (t1.trans t2) hK2)
      · rw [then_exit hn]
        have : Nat.beq n 0 = false := by rw [nbeq]; simp [hn]
        simp only [this, cond_false] at hK1
        exact hQ n e1 st1 a1 w1 h1 t1 hK1
    · intro e1 st1 a1 w1 h1 t1 hK1
      exact hJ e1 st1 a1 w1 h1 t1 hK1
  | cond x y z _ _ =>
    intro Z e st a w K Q h hK hQ hJ
    simp only [codeG] at hK
    split at hK
    · rename_i l' hg
      obtain ⟨rfl, rfl⟩ := gotoB_spec hg
      cases hb : Nat.beq l' l with
      | false => rw [hb] at hK; cases hK
      | true =>
        rw [hb] at hK
        simp only [cond_true] at hK
        have hb := Nat.eq_of_beq_eq_true hb
        subst hb
        obtain ⟨hx, _⟩ := h.eval x
        split at hK
        · rename_i v hv
          rw [hv] at hx
          refine wp_cond (rep_b hx) ?_
          cases v with
          | true => exact wp_goto (hJ e st a w h (.refl _ _ _) hK)
          | false => exact wp_skip (hQ 0 e st a w h (.refl _ _ _) hK)
        · cases hK
    · exact code_ok hG hD _ h hK hQ
  | label l' =>
    intro Z e st a w K Q h hK hQ hJ
    exact wp_label (hQ 0 e st a w h (.refl _ _ _) hK)
  | _ => intro Z e st a w K Q h hK hQ hJ; simp only [codeG] at hK; exact code_ok hG hD _ h hK hQ
theorem codeX_ok (hG : Good P c) (hD : Draws P c) : ∀ (code : Code) {Z : Zone} {e : Env} {st : St} {a : Act} {w : World} {K : Nat → St → Option R} {Q : Exit → Act → World → Prop}, Sim c Z e st a w → codeX c code st K = some r →
    (∀ n e' st' a' w', Sim c Z e' st' a' w' → Trans Z.In e.φ w e'.φ w' → K n st' = some r → Q (exitOf n) a' w') → code.wp P Q a w := by
  intro code
  induction code with
  | seq x y _ ihy =>
    intro Z e st a w K Q h hK hQ
    simp only [codeX] at hK
    have nxt : ∀ n e1 st1 a1 w1, Sim c Z e1 st1 a1 w1 → Trans Z.In e.φ w e1.φ w1 → (bif Nat.beq n 0 then codeX c y st1 K else K n st1) = some r → Exit.then (y.wp P Q) Q (exitOf n) a1 w1 := by
      intro n e1 st1 a1 w1 h1 t1 hK1
      by_cases hn : n = 0
      · subst hn
        exact ihy h1 hK1 (fun n e2 st2 a2 w2 h2 t2 hK2 => hQ n e2 st2 a2 w2 h2 (t1.trans t2) hK2)
      · rw [then_exit hn]
        have : Nat.beq n 0 = false := by rw [nbeq]; simp [hn]
        simp only [this, cond_false] at hK1
        exact hQ n e1 st1 a1 w1 h1 t1 hK1
    split at hK
    · rename_i q hq
      exact wp_seq (rng_ok hG hD hq h hK nxt)
    · exact wp_seq (code_ok hG hD _ h hK nxt)
  | scope b _ =>
    intro Z e st a w K Q h hK hQ
    simp only [codeX] at hK
    split at hK
    · rename_i rest hf
      have hx : ∀ (J : Act → World → Prop) n (a' : Act) (w' : World), Q (exitOf n) a' w' → Exit.jump 0 J Q (exitOf n) a' w' := by
        intro J n a' w' hq
        match n, hq with
        | 0, hq => exact hq
        | 1, hq => exact hq
        | n + 2, hq => exact hq
      refine wp_scope_jumps 0 (fun a' w' => ∃ e' st', Sim c Z e' st' a' w' ∧ Trans Z.In e.φ w e'.φ w' ∧ codeK c rest R st' K = some r) (fun _ _ => 0) hf ?_ ?_
      · refine codeG_ok hG hD b h hK (fun n e' st' a' w' h' t' hK' => hx _ n a' w' (hQ n e' st' a' w' h' t' hK')) ?_
        intro e' st' a' w' h' t' hK'
        exact ⟨rfl, e', st', h', t', hK'⟩
      · rintro a1 w1 ⟨e1, st1, h1, t1, hK1⟩
        refine code_ok hG hD rest h1 hK1 ?_
        intro n e' st' a' w' h' t' hK'
        exact hx _ n a' w' (hQ n e' st' a' w' h' (t1.trans t') hK')
    · cases hK
  | _ => intro Z e st a w K Q h hK hQ; simp only [codeX] at hK; exact code_ok hG hD _ h hK hQ
end

/-- a function of the program's, out of its abstract run -/
theorem SoundG.bodyX {P : Program} {c c' : Ctx} {g : Nat → List MV → Option MV} {n : Nat} {fn : Func} {caps : List (List Kd)} (h : SoundG P c g) (hl : Like c c') (hgg : c'.g = g) (hti : TIok P c.ti) (heq : EqOK P c.ti) (hfk : ∀ t k, c.fk t = some k → P.underlying t = some (.float k)) (hmt : MapTys P c) (hmix : P.follows .mixedOrders = true) (hdel : DelsOK P c)
    (hf : P.funcs[n]? = some fn) (hh : headB c' n fn caps = true) (hkey : ∀ f, c.key f = f) {fresh : Option Nat} (hfr : freshB c' n fn fresh = true) : SoundG P c (addG n (Dn.bodyX c' caps fresh fn) g) := by
  have hG : Good P c' := by
    refine ⟨by rw [hl.ti]; exact hti, by rw [hl.ti]; exact heq, fun f ms r hr => ?_, by rw [hl.fk]; exact hfk, fun t s hs => hmt t s ?_⟩
    · rw [hgg, hl.key] at hr
      exact (h.all f ms r hr).like hl
    · rw [← hs]; unfold msOf Ctx.tv; rw [hl.mt, hl.ti]
  refine h.add (fun f ms r hk hr => ?_)
  rw [hkey] at hk
  subst hk
  simp only [headB, Bool.and_eq_true, Bool.not_eq_true'] at hh
  obtain ⟨⟨⟨h1, h2⟩, h3⟩, h4⟩ := hh
  have hD := draws_ok hG hmix (hdel.like hl)
  exact (body_okG (fun b {r Z e st a w K Q} h hK hQ => codeX_ok hG hD b h hK hQ) hG hf h1 (Nat.eq_of_beq_eq_true h2) (Nat.le_of_ble_eq_true h3) (by rw [hl.key, hkey]; exact h4) (by rw [hl.key, hkey]; exact freshB_of hfr) hr).like hl.symm
theorem SoundG.fnX {P : Program} {c c' : Ctx} {g : Nat → List MV → Option MV} {n : Nat} {fn : Func} {caps : List (List Kd)} {F : List MV → Option MV} (h : SoundG P c g) (hl : Like c c') (hgg : c'.g = g) (hti : TIok P c.ti) (heq : EqOK P c.ti) (hfk : ∀ t k, c.fk t = some k → P.underlying t = some (.float k)) (hmt : MapTys P c) (hmix : P.follows .mixedOrders = true) (hdel : DelsOK P c)
    (hf : P.funcs[n]? = some fn) (hh : headB c' n fn caps = true) (hkey : ∀ f, c.key f = f) {fresh : Option Nat} (hfr : freshB c' n fn fresh = true) (hF : ∀ {ms r}, F ms = some r → Dn.bodyX c' caps fresh fn ms = some r) : SoundG P c (addG n F g) := by
  have hb := SoundG.bodyX h hl hgg hti heq hfk hmt hmix hdel hf hh hkey hfr
  refine h.add (fun f ms r hk hr => ?_)
  refine hb.all f ms r ?_
  unfold addG
  rw [hk]
  simp [hF hr]

/-- a loop over a map, on plain and on typed values -/
theorem st_range {α ρ ρ' : Type} {e : α → MV} {f : ρ' → ρ} {K : MV → Option (Sum Unit ρ)} {K' : α → Option (Sum Unit ρ')} {d : Option ρ} {d' : Option ρ'} {l : List MV} {M : List α} (hl : l = M.map e) (hd : Sm f d d') (h : ∀ x, Sm (Sum.map id f) (K (e x)) (K' x)) :
    Sm f (RangeM K d l) (RangeM K' d' M) := by
  subst hl
  have hg : ∀ x, goesOn (K (e x)) = goesOn (K' x) := by
    intro x
    rw [h x]
    cases K' x with
    | none => rfl
    | some y => cases y <;> rfl
  unfold Sm
  induction M with
  | nil => exact hd
  | cons x M ih =>
    have hx := h x
    unfold Sm at hx
    simp only [List.map_cons, RangeM, hx]
    cases hk : K' x with
    | none => rfl
    | some y =>
      cases y with
      | inl u => exact ih
      | inr r =>
        simp only [Option.map_some, Sum.map_inr, List.all_map]
        have : (M.all ((fun y => goesOn (K y)) ∘ e)) = M.all fun y => goesOn (K' y) := by
          congr 1
          funext y
          exact hg y
        rw [this]
        cases M.all fun y => goesOn (K' y) <;> rfl
theorem st_ent {A B : Type} {g : B → A} {m : MV} {K : List UInt8 → Int → Option A} {K' : List UInt8 → Int → Option B} (h : ∀ key n, Sm g (K key n) (K' key n)) : Sm g (entT m K) (entT m K') := by
  have hN : ∀ {l : List MV} {X : Option A} {X' : Option B}, Sm g X X' → Sm g (gN l X) (gN l X') := by intro l X X' h; cases l <;> first | exact h | rfl
  have hC : ∀ {l : List MV} {X : MV → List MV → Option A} {X' : MV → List MV → Option B}, (∀ a b, Sm g (X a b) (X' a b)) → Sm g (gC l X) (gC l X') := by intro l X X' h; cases l <;> first | exact h _ _ | rfl
  unfold entT
  cases m <;> first | rfl | skip
  refine hC fun ka r => ?_
  cases ka <;> first | rfl | skip
  refine hC fun k0 kr => hN ?_
  cases k0 <;> first | rfl | skip
  refine hC fun v0 vr => hN ?_
  cases v0 <;> first | rfl | skip
  rename_i k n
  simp only [gI]
  cases decide (k = IntKind.i64) <;> first | rfl | exact h _ _
@[reducible] def encCl {α : Type} (f : α → MV) (l : List α) : MV := .clip (l.map f)
end Dn
/-
  Reasoning about functions on typed values. Conditions: none.
-/
set_option linter.unusedVariables false
namespace Dn
open Go
section
variable {α R : Type}
theorem ix_nat {l : List α} {k : Nat} (h : k < l.length) (K : α → Option R) : ix l (k : Int) K = K l[k] := by
  simp [ix, h]
theorem ix_int {l : List α} {i : Int} (h0 : 0 ≤ i) (h : i.toNat < l.length) (K : α → Option R) : ix l i K = K l[i.toNat] := by
  simp [ix, h, h0]
theorem ix_zero {l : List α} (h : 0 < l.length) (K : α → Option R) : ix l 0 K = K l[0] := by simp [ix, h]
theorem if_t {c : Prop} [Decidable c] (h : c) (x y : α) : (if c then x else y) = x := if_pos h
@[simp] theorem bd_id {A : Type} (x : Option A) : bd x (fun a => some a) = x := by cases x <;> rfl
end
/-- it gives something that .. -/
def Gives {A : Type} (x : Option A) (Q : A → Prop) : Prop := ∃ a, x = some a ∧ Q a
section
variable {A B α σ ρ : Type}
theorem Gives.mk {a : A} {Q : A → Prop} (h : Q a) : Gives (some a) Q := ⟨a, rfl, h⟩
theorem Gives.of {x : Option A} {a : A} {Q : A → Prop} (e : x = some a) (h : Q a) : Gives x Q := ⟨a, e, h⟩
theorem Gives.bd {x : Option A} {K : A → Option B} {P : A → Prop} {Q : B → Prop} (h : Gives x P) (hk : ∀ a, P a → Gives (K a) Q) : Gives (bd x K) Q := by
  obtain ⟨a, rfl, hp⟩ := h; exact hk a hp
theorem Gives.ite {c : Prop} [Decidable c] {x y : Option A} {Q : A → Prop} (h1 : c → Gives x Q) (h2 : ¬ c → Gives y Q) : Gives (if c then x else y) Q := by
  split
  · exact h1 ‹_›
  · exact h2 ‹_›
theorem Gives.imp {x : Option A} {P Q : A → Prop} (h : Gives x P) (hpq : ∀ a, P a → Q a) : Gives x Q := by
  obtain ⟨a, e, hp⟩ := h; exact ⟨a, e, hpq a hp⟩
theorem Gives.ix {l : List α} {k : Nat} {K : α → Option A} {Q : A → Prop} (h : k < l.length) (hk : Gives (K l[k]) Q) : Gives (ix l (k : Int) K) Q := by rw [ix_nat h]; exact hk
theorem Gives.eq {x : Option A} {a : A} (h : Gives x (· = a)) : x = some a := by obtain ⟨b, e, rfl⟩ := h; exact e

variable {body : σ → Option (Sum σ ρ)}
/-- a loop, by what holds at its head and what falls -/
theorem Gives.loop (I : σ → Prop) (μ : σ → Nat) {Q : ρ → Prop} {s : σ} (hs : I s) (h : ∀ s, I s → Gives (body s) fun x => match x with | .inl s' => I s' ∧ μ s' < μ s | .inr r => Q r) : Gives (Loop body s) Q := by
  refine Loop_inv I μ Q (fun s hs => ?_) hs
  obtain ⟨x, e, hx⟩ := h s hs
  cases x with
  | inl s' => exact .inl ⟨s', e, hx⟩
  | inr r => exact .inr ⟨r, e, hx⟩
/-- a loop whose states are known: the k-th, up to the n-th, at which it ends -/
theorem Gives.count (S : Nat → σ) (n : Nat) {Q : ρ → Prop} (P : Nat → Prop) {s : σ} (e : s = S 0) (h0 : P 0) (h : ∀ k, k < n → P k → Gives (body (S k)) fun x => match x with | .inl s' => s' = S (k + 1) ∧ P (k + 1) | .inr r => Q r)
    (he : P n → Gives (body (S n)) fun x => match x with | .inl _ => False | .inr r => Q r) : Gives (Loop body s) Q := by
  subst e
  refine Loop_nat S n Q P h0 (fun k hk hp => ?_) (fun hp => ?_)
  · obtain ⟨x, e, hx⟩ := h k hk hp
    cases x with
    | inl s' => obtain ⟨rfl, hx⟩ := hx; exact .inl ⟨e, hx⟩
    | inr r => exact .inr ⟨r, e, hx⟩
  · obtain ⟨x, e, hx⟩ := he hp
    cases x with
    | inl s' => exact hx.elim
    | inr r => exact ⟨r, e, hx⟩
end
theorem wrap64 {x : Int} (h1 : -9223372036854775808 ≤ x) (h2 : x ≤ 9223372036854775807) : IntKind.wrap .i64 x = x := wrap_id h1 h2
end Dn
/-
  Functions of the library, on typed values. Conditions: none.
-/
set_option linter.unusedVariables false
namespace Dn
open Go
def cmp3 (x y : Int) : Int := if x < y then -1 else if y < x then 1 else 0
/-- so many stand ahead of a number -/
def lbK {α : Type} (key : α → Int) (L : List α) (s : Int) : Nat := L.countP (fun e => decide (key e < s))
def hasK {α : Type} (key : α → Int) (L : List α) (s : Int) : Bool := L.any fun e => decide (key e = s)
def IncK {α : Type} (key : α → Int) (L : List α) : Prop := L.Pairwise fun a b => key a < key b
section
variable {α τ : Type} {key : α → Int}
theorem lbK_eq {L : List α} {s : Int} {p : Nat} (hp : p ≤ L.length) (h1 : ∀ k (hk : k < L.length), k < p → key L[k] < s) (h2 : ∀ k (hk : k < L.length), p ≤ k → s ≤ key L[k]) : lbK key L s = p := by
  have h3 : (L.take p).countP (fun e => decide (key e < s)) = (L.take p).length := by
    rw [List.countP_eq_length]
    intro a ha
    obtain ⟨k, hk, rfl⟩ := List.mem_iff_getElem.1 ha
    have hk2 : k < p := by rw [List.length_take] at hk; omega
    rw [List.getElem_take]
    exact decide_eq_true (h1 k (by omega) hk2)
  have h4 : (L.drop p).countP (fun e => decide (key e < s)) = 0 := by
    rw [List.countP_eq_zero]
    intro a ha
    obtain ⟨k, hk, rfl⟩ := List.mem_iff_getElem.1 ha
    rw [List.length_drop] at hk
    rw [List.getElem_drop]
    have := h2 (p + k) (by omega) (by omega)
    simp; omega
  have h5 : lbK key L s = (L.take p ++ L.drop p).countP (fun e => decide (key e < s)) := by rw [List.take_append_drop]; rfl
  rw [h5, List.countP_append, h3, h4, List.length_take]
  omega
theorem IncK.lt {L : List α} (hs : IncK key L) {i j : Nat} (hj : j < L.length) (h : i < j) : key (L[i]'(by omega)) < key L[j] := List.pairwise_iff_getElem.1 hs i j (by omega) hj h
theorem IncK.le {L : List α} (hs : IncK key L) {i j : Nat} (hj : j < L.length) (h : i ≤ j) : key (L[i]'(by omega)) ≤ key L[j] := by
  rcases Nat.lt_or_eq_of_le h with h | h
  · exact Int.le_of_lt (hs.lt hj h)
  · subst h; exact Int.le_refl _
theorem lbK_le (L : List α) (s : Int) : lbK key L s ≤ L.length := List.countP_le_length
/-- what stands where a number is, or would be -/
theorem IncK.lb {L : List α} (hs : IncK key L) (s : Int) : (∀ k (hk : k < L.length), k < lbK key L s → key L[k] < s) ∧ (∀ k (hk : k < L.length), lbK key L s ≤ k → s ≤ key L[k]) := by
  have : ∃ p, p ≤ L.length ∧ (∀ k (hk : k < L.length), k < p → key L[k] < s) ∧ (∀ k (hk : k < L.length), p ≤ k → s ≤ key L[k]) := by
    induction L with
    | nil => exact ⟨0, Nat.le_refl _, fun k hk => by simp at hk, fun k hk => by simp at hk⟩
    | cons a l ih =>
      have hs' := List.pairwise_cons.1 hs
      by_cases ha : key a < s
      · obtain ⟨p, h1, h2, h3⟩ := ih hs'.2
        refine ⟨p + 1, by simp; omega, fun k hk hkp => ?_, fun k hk hkp => ?_⟩
        · cases k with
          | zero => exact ha
          | succ k => exact h2 k (by simpa using hk) (by omega)
        · cases k with
          | zero => omega
          | succ k => exact h3 k (by simpa using hk) (by omega)
      · refine ⟨0, Nat.zero_le _, fun k hk hkp => by omega, fun k hk _ => ?_⟩
        cases k with
        | zero => simp; omega
        | succ k =>
          have := hs'.1 (l[k]'(by simpa using hk)) (List.getElem_mem _)
          simp only [List.getElem_cons_succ]; omega
  obtain ⟨p, h1, h2, h3⟩ := this
  rw [lbK_eq h1 h2 h3]
  exact ⟨h2, h3⟩
theorem IncK.has {L : List α} (hs : IncK key L) (s : Int) : hasK key L s = true ↔ ∃ h : lbK key L s < L.length, key L[lbK key L s] = s := by
  obtain ⟨h1, h2⟩ := hs.lb s
  unfold hasK
  rw [List.any_eq_true]
  constructor
  · rintro ⟨x, hx, he⟩
    obtain ⟨k, hk, rfl⟩ := List.mem_iff_getElem.1 hx
    have he : key L[k] = s := by simpa using he
    have hge : lbK key L s ≤ k := by
      refine Nat.le_of_not_lt fun hlt => ?_
      have := h1 k hk hlt; omega
    have hl : lbK key L s < L.length := by omega
    refine ⟨hl, ?_⟩
    have := h2 _ hl (Nat.le_refl _)
    have := hs.le hk hge
    omega
  · rintro ⟨h, he⟩
    exact ⟨_, List.getElem_mem h, decide_eq_true he⟩
theorem hasK_iff {L : List α} {s : Int} : hasK key L s = true ↔ ∃ x ∈ L, key x = s := by simp [hasK]
noncomputable def bsL (x : List α) (target : τ) (cmp : α → τ → Option Int) (st : Int × Int) : Option ((Int × Int) ⊕ Int) :=
  if st.1 < st.2 then
  if (0 : Int) ≤ 1 then
  ix x (IntKind.wrap .i64 (Int.fdiv (IntKind.wrap .u64 (IntKind.wrap .i64 (st.1 + st.2))) (2 ^ min (Int.toNat 1) (IntKind.bits .u64)))) fun y =>
  bd (cmp y target) fun rA =>
  bd (
    if rA < 0 then
    some (IntKind.wrap .i64 ((IntKind.wrap .i64 (Int.fdiv (IntKind.wrap .u64 (IntKind.wrap .i64 (st.1 + st.2))) (2 ^ min (Int.toNat 1) (IntKind.bits .u64)))) + 1), st.2)
    else
    some (st.1, IntKind.wrap .i64 (Int.fdiv (IntKind.wrap .u64 (IntKind.wrap .i64 (st.1 + st.2))) (2 ^ min (Int.toNat 1) (IntKind.bits .u64)))) : Option (Int × Int)) fun w1 =>
  some (.inl (w1.1, w1.2))
  else none
  else
  some (.inr st.1)
noncomputable def bsearch (x : List α) (target : τ) (cmp : α → τ → Option Int) : Option (Int × Bool) :=
  bd (Loop (bsL x target cmp) (0, (x.length : Int))) fun w =>
  bd (
    if w < (x.length : Int) then
    ix x w fun y1 =>
    bd (cmp y1 target) fun rA1 =>
    some (w, decide (rA1 = 0))
    else
    some (w, false) : Option (Int × Bool)) fun w2 =>
  some (w2.1, w2.2)
/-- a search in what is in order -/
theorem bsearch_eq {L : List α} {s : Int} {cmp : α → Int → Option Int} (hs : IncK key L) (hl : L.length < 2 ^ 60) (hc : ∀ a, cmp a s = some (cmp3 (key a) s)) : bsearch L s cmp = some ((lbK key L s : Int), hasK key L s) := by
  obtain ⟨hb1, hb2⟩ := hs.lb s
  have hle := lbK_le (key := key) L s
  have hloop : Loop (bsL L s cmp) (0, (L.length : Int)) = some (lbK key L s : Int) := by
    refine Gives.eq (Gives.loop (fun st => ∃ i j : Nat, st = ((i : Int), (j : Int)) ∧ i ≤ lbK key L s ∧ lbK key L s ≤ j ∧ j ≤ L.length) (fun st => (st.2 - st.1).toNat) ⟨0, L.length, rfl, Nat.zero_le _, hle, Nat.le_refl _⟩ ?_)
    rintro st ⟨i, j, rfl, hi, hj, hjl⟩
    unfold bsL
    by_cases hlt : i < j
    · have hm : (i + j) / 2 < L.length := by omega
      simp only [show ((i : Int) < (j : Int)) by omega, if_true, show ((0 : Int) ≤ 1) by decide, mid_eq (by omega : i + j < 2 ^ 62), ix_nat hm, hc, bd_s]
      by_cases hlb : (i + j) / 2 < lbK key L s
      · have hk := hb1 _ hm hlb
        have : cmp3 (key L[(i + j) / 2]) s = -1 := by simp [cmp3, hk]
        simp only [this, show ((-1 : Int) < 0) by decide, if_true, bd_s]
        rw [wrap64 (by omega) (by omega)]
        exact .mk ⟨⟨(i + j) / 2 + 1, j, by simp, by omega, hj, hjl⟩, by omega⟩
      · have hk := hb2 _ hm (by omega)
        have : ¬ cmp3 (key L[(i + j) / 2]) s < 0 := by unfold cmp3; rw [if_neg (by omega)]; split <;> omega
        simp only [this, if_false, bd_s]
        exact .mk ⟨⟨i, (i + j) / 2, rfl, hi, by omega, by omega⟩, by omega⟩
    · simp only [show ¬ ((i : Int) < (j : Int)) by omega, if_false]
      exact .mk (by show (i : Int) = (lbK key L s : Int); omega)
  unfold bsearch
  rw [hloop]
  simp only [bd_s]
  by_cases hlt : lbK key L s < L.length
  · simp only [show ((lbK key L s : Int) < (L.length : Int)) by omega, if_true, ix_nat hlt, hc, bd_s]
    have h3 := hb2 _ hlt (Nat.le_refl _)
    have : decide (cmp3 (key L[lbK key L s]) s = 0) = hasK key L s := by
      unfold cmp3
      rw [if_neg (by omega)]
      by_cases he : key L[lbK key L s] = s
      · rw [if_neg (by omega), decide_eq_true rfl, (hs.has s).2 ⟨hlt, he⟩]
      · rw [if_pos (by omega), decide_eq_false (by decide)]
        symm; rw [Bool.eq_false_iff]
        intro hh
        obtain ⟨_, hh⟩ := (hs.has s).1 hh
        exact he hh
    rw [this]
  · simp only [show ¬ ((lbK key L s : Int) < (L.length : Int)) by omega, if_false, bd_s]
    have : hasK key L s = false := by
      rw [Bool.eq_false_iff]
      intro hh
      obtain ⟨hh, _⟩ := (hs.has s).1 hh
      exact hlt hh
    rw [this]
/-- a list with one more put in its place -/
def insK (key : α → Int) (L : List α) (a : α) : List α := L.take (lbK key L (key a)) ++ [a] ++ L.drop (lbK key L (key a))
theorem tInsert_lb {L : List α} {a : α} {by' : Nat} (hb : (L.length + 1) * by' ≤ 2 ^ 46) : tInsert by' L (lbK key L (key a) : Int) [a] = some (insK key L a) := by
  unfold tInsert
  rw [if_pos]
  · rfl
  · exact ⟨by omega, by simpa using lbK_le L _, by simp, by simpa using hb⟩
theorem tClone_eq {L : List α} {by' : Nat} (h : L.length * by' ≤ 2 ^ 46) : tClone by' L = some L := if_pos h
end
section
variable {α ρ : Type}
/-- a loop that looks whether all is well, and leaves at the first that is not -/
theorem Loop_all {body : Int → Option (Int ⊕ (Unit ⊕ ρ))} (n : Nat) (p : Nat → Prop) (c : ρ) (h : ∀ k, k < n → (∀ j, j < k → p j) → (p k → body (k : Int) = some (.inl ((k + 1 : Nat) : Int))) ∧ (¬ p k → body (k : Int) = some (.inr (.inr c))))
    (he : body (n : Int) = some (.inr (.inl ()))) : Gives (Loop body 0) fun r => (r = .inl () ∧ ∀ k, k < n → p k) ∨ (r = .inr c ∧ ∃ k, k < n ∧ ¬ p k) := by
  refine Gives.count (fun k => (k : Int)) n (fun k => ∀ j, j < k → p j) rfl (fun j hj => by omega) (fun k hk hp => ?_) (fun hp => ?_)
  · by_cases hpk : p k
    · refine .of ((h k hk hp).1 hpk) ⟨rfl, fun j hj => ?_⟩
      by_cases hjk : j = k
      · subst hjk; exact hpk
      · exact hp j (by omega)
    · exact .of ((h k hk hp).2 hpk) (.inr ⟨rfl, k, hk, hpk⟩)
  · exact .of he (.inl ⟨rfl, hp⟩)
theorem Loop_same [DecidableEq α] {a b : List α} {body : Int → Option (Int ⊕ (Unit ⊕ Bool))} (hl : a.length = b.length) (h : ∀ k (ha : k < a.length) (hb : k < b.length), body (k : Int) = some (if a[k] = b[k] then .inl ((k + 1 : Nat) : Int) else .inr (.inr false)))
    (he : body (a.length : Int) = some (.inr (.inl ()))) : Loop body 0 = some (if a = b then .inl () else .inr false) := by
  obtain ⟨r, e, hr⟩ := Loop_all (body := body) a.length (fun k => a[k]? = b[k]?) false (fun k hk _ => by
    have hkb : k < b.length := by omega
    rw [List.getElem?_eq_getElem hk, List.getElem?_eq_getElem hkb, h k hk hkb]
    constructor
    · intro hh; rw [if_pos (by simpa using hh)]
    · intro hh; rw [if_neg (by simpa using hh)]) he
  rw [e]
  rcases hr with ⟨rfl, hall⟩ | ⟨rfl, k, hk, hne⟩
  · rw [if_pos]
    refine List.ext_getElem? fun k => ?_
    by_cases hk : k < a.length
    · exact hall k hk
    · rw [List.getElem?_eq_none (by omega), List.getElem?_eq_none (by omega)]
  · rw [if_neg]
    intro hab; subst hab; exact hne rfl
end
end Dn
/-
  Maps as lists of entries: what is there behind a store. Conditions: none.
-/
set_option linter.unusedVariables false
namespace Dn
open Go
theorem midx_le (es : List MV) (ks : List MV) : midx es ks ≤ es.length := by
  rw [midx_fidx]; have := fidx_le (es.map mkey) ks; simpa using this
theorem fidx_congr_append {kss : List (List MV)} {ks ks' : List MV} (h : mvsEq ks' ks = false) : fidx (kss ++ [ks']) ks = if fidx kss ks < kss.length then fidx kss ks else kss.length + 1 := by
  induction kss with
  | nil => simp [fidx, h]
  | cons q r ih =>
    simp only [List.cons_append, fidx, List.length_cons]
    rcases Bool.eq_false_or_eq_true (mvsEq q ks) with hm | hm
    · simp [hm]
    · have := fidx_le r ks
      simp only [hm, cond_false]
      by_cases hl : fidx r ks < r.length
      · simp [hl, ih]
      · simp [hl, ih]
theorem fidx_append_self {kss : List (List MV)} {ks : List MV} (hr : mvsEq ks ks = true) (h : fidx kss ks = kss.length) : fidx (kss ++ [ks]) ks = kss.length := by
  induction kss with
  | nil => simp [fidx, hr]
  | cons q r ih =>
    simp only [List.cons_append, fidx, List.length_cons] at h ⊢
    cases hm : mvsEq q ks with
    | true => simp [hm] at h
    | false =>
      simp only [hm, cond_false] at h ⊢
      rw [ih (by omega)]
theorem fidx_hit {kss : List (List MV)} {ks : List MV} (h : fidx kss ks < kss.length) : kss[fidx kss ks]? = some ks := by
  obtain ⟨q, hq⟩ : ∃ q, kss[fidx kss ks]? = some q := ⟨_, List.getElem?_eq_getElem h⟩
  rw [hq, fidx_get hq]
theorem mkey_tup (ks : List MV) (v : MV) : mkey (.tup [.agg ks, v]) = ks := rfl
/-- a map with something written -/
def mput (es ks : List MV) (z v : MV) : List MV := mset (ment es ks z) (midx es ks) v
theorem mput_keys {es ks : List MV} {z v : MV} : (mput es ks z v).map mkey = if midx es ks < es.length then es.map mkey else es.map mkey ++ [ks] := by
  have hle := midx_le es ks
  unfold mput ment
  rw [nbeq]
  by_cases h : midx es ks = es.length
  · simp only [h, decide_true, cond_true]
    unfold mset
    simp [mkey_tup]
  · have hlt : midx es ks < es.length := by omega
    simp only [h, decide_false, cond_false, hlt, if_true]
    unfold mset
    rw [List.getElem?_eq_getElem hlt]
    simp only
    apply List.ext_getElem?
    intro i
    rw [List.getElem?_map, List.getElem?_map, List.getElem?_set]
    by_cases hi : midx es ks = i
    · subst hi; simp [hlt, mkey_tup]
    · simp [hi]
theorem mput_at {es ks : List MV} {z v : MV} : (mput es ks z v)[midx es ks]? = some (.tup [.agg ks, v]) := by
  have hle := midx_le es ks
  unfold mput ment
  rw [nbeq]
  by_cases h : midx es ks = es.length
  · simp only [h, decide_true, cond_true]
    unfold mset
    simp [mkey_tup]
  · have hlt : midx es ks < es.length := by omega
    simp only [h, decide_false, cond_false]
    unfold mset
    rw [List.getElem?_eq_getElem hlt]
    have hk : mkey es[midx es ks] = ks := by
      have h1 : (es.map mkey)[fidx (es.map mkey) ks]? = some (mkey es[midx es ks]) := by
        rw [← midx_fidx, List.getElem?_map, List.getElem?_eq_getElem hlt]; rfl
      exact fidx_get h1
    simp [hlt, hk]
theorem mput_other {es ks : List MV} {z v : MV} {i : Nat} (hi : i < es.length) (hne : i ≠ midx es ks) : (mput es ks z v)[i]? = es[i]? := by
  have hle := midx_le es ks
  unfold mput ment
  rw [nbeq]
  by_cases h : midx es ks = es.length
  · simp only [h, decide_true, cond_true]
    unfold mset
    simp only [List.getElem?_append_right (Nat.le_refl _), Nat.sub_self, List.getElem?_cons_zero]
    rw [List.getElem?_set_ne (by omega), List.getElem?_append_left hi]
  · have hlt : midx es ks < es.length := by omega
    simp only [h, decide_false, cond_false]
    unfold mset
    rw [List.getElem?_eq_getElem hlt]
    simp only
    rw [List.getElem?_set_ne (fun e => hne e.symm)]
theorem mput_len {es ks : List MV} {z v : MV} : (mput es ks z v).length = if midx es ks < es.length then es.length else es.length + 1 := by
  have h : ((mput es ks z v).map mkey).length = _ := congrArg List.length mput_keys
  rw [List.length_map] at h
  rw [h]; split <;> simp
/-- what a key has -/
def mget (es ks : List MV) : Option MV := (es[midx es ks]?).map mval
theorem mgetI_eq (es ks : List MV) : mgetI es ks = match mget es ks with | some v => asI v | none => 0 := by
  unfold mgetI mget; cases es[midx es ks]? <;> rfl
theorem mget_put_same {es ks : List MV} {z v : MV} (hr : mvsEq ks ks = true) : mget (mput es ks z v) ks = some v := by
  have hle := midx_le es ks
  have : midx (mput es ks z v) ks = midx es ks := by
    rw [midx_fidx, mput_keys, midx_fidx]
    split
    · rfl
    · rename_i h
      have h1 := fidx_le (es.map mkey) ks
      simp only [List.length_map] at h1 ⊢
      have h2 : fidx (es.map mkey) ks = (es.map mkey).length := by simp; omega
      rw [fidx_append_self hr h2, h2]
  unfold mget
  rw [this, mput_at]; rfl
theorem mget_put_other {es ks ks' : List MV} {z v : MV} (hne : mvsEq ks ks' = false) : mget (mput es ks z v) ks' = mget es ks' := by
  unfold mget
  have hle' := midx_le es ks'
  have hle := midx_le es ks
  have hix : midx (mput es ks z v) ks' = if midx es ks < es.length then midx es ks' else if midx es ks' < es.length then midx es ks' else es.length + 1 := by
    rw [midx_fidx, mput_keys]
    split
    · rw [midx_fidx]
    · rw [fidx_congr_append hne, ← midx_fidx]; simp
  by_cases hlt : midx es ks' < es.length
  · have hm : midx (mput es ks z v) ks' = midx es ks' := by rw [hix]; simp [hlt]
    have hne2 : midx es ks' ≠ midx es ks := by
      intro he
      have h1 := fidx_hit (kss := es.map mkey) (ks := ks') (by rw [← midx_fidx]; simpa using hlt)
      have h2 := fidx_hit (kss := es.map mkey) (ks := ks) (by rw [← midx_fidx, ← he]; simpa using hlt)
      rw [← midx_fidx, he, midx_fidx, h2] at h1
      cases h1
      have hq : mvsEq ks ks = true := by
        have := hlt
        rw [he] at this
        -- the entry is found by its key
        have h3 : ∀ (l : List (List MV)), fidx l ks < l.length → ∃ q, mvsEq q ks = true := by
          intro l
          induction l with
          | nil => intro h; simp [fidx] at h
          | cons q r ih =>
            intro h
            simp only [fidx] at h
            cases hm : mvsEq q ks with
            | true => exact ⟨q, hm⟩
            | false => simp only [hm, cond_false, List.length_cons] at h; exact ih (by omega)
        obtain ⟨q, hq⟩ := h3 (es.map mkey) (by rw [← midx_fidx]; simpa using this)
        have := mvsEq_of hq
        subst this
        exact hq
      rw [hq] at hne; cases hne
    rw [hm, mput_other hlt hne2]
  · have hnone : es[midx es ks']? = none := by rw [List.getElem?_eq_none_iff]; omega
    rw [hnone]
    have hlen := mput_len (es := es) (ks := ks) (z := z) (v := v)
    have : (mput es ks z v)[midx (mput es ks z v) ks']? = none := by
      rw [List.getElem?_eq_none_iff, hix, hlen]
      repeat' split
      all_goals omega
    rw [this]
end Dn
/-
  Runs with a bound on their rounds. Conditions: none.
-/
set_option linter.unusedVariables false
namespace Dn
open Go
def LoopC {σ R : Type} (n : Nat) (body : σ → Option (Sum σ R)) (s : σ) : Option R := iter body n s
/-- what the one gives, the other gives -/
def Le {A : Type} (x y : Option A) : Prop := ∀ a, x = some a → y = some a
section
variable {A B σ ρ α : Type}
theorem Le.rfl' (x : Option A) : Le x x := fun _ h => h
theorem Le.bd {x x' : Option A} {K K' : A → Option B} (h : Le x x') (hk : ∀ a, Le (K a) (K' a)) : Le (bd x K) (bd x' K') := by
  intro b hb
  cases hx : x with
  | none => rw [hx] at hb; cases hb
  | some a => rw [hx] at hb; rw [h a hx]; exact hk a b hb
theorem Le.ite {c : Prop} [Decidable c] {x y x' y' : Option A} (h1 : Le x x') (h2 : Le y y') : Le (if c then x else y) (if c then x' else y') := by
  split
  · exact h1
  · exact h2
theorem Le.ix {l : List α} {i : Int} {K K' : α → Option A} (h : ∀ a, Le (K a) (K' a)) : Le (ix l i K) (ix l i K') := by
  unfold Dn.ix
  split
  · exact h _
  · exact Le.rfl' _
theorem Le.iter {K K' : σ → Option (Sum σ ρ)} (h : ∀ s, Le (K s) (K' s)) (n : Nat) (s : σ) : Le (iter K n s) (iter K' n s) := by
  induction n generalizing s with
  | zero => exact Le.rfl' _
  | succ n ih =>
    intro r hr
    simp only [Dn.iter] at hr ⊢
    cases hk : K s with
    | none => rw [hk] at hr; cases hr
    | some x =>
      rw [hk] at hr
      rw [h s x hk]
      cases x with
      | inl s' => exact ih s' r hr
      | inr r' => exact hr
theorem Le.loop {n : Nat} {K K' : σ → Option (Sum σ ρ)} {s : σ} (h : ∀ s, Le (K s) (K' s)) : Le (LoopC n K s) (Loop K' s) := fun r hr => Loop_of_iter (Le.iter h n s r hr)
theorem Le.sum {P Q : Type} {x : P ⊕ Q} {f f' : P → Option A} {g g' : Q → Option A} (h1 : ∀ p, Le (f p) (f' p)) (h2 : ∀ q, Le (g q) (g' q)) : Le (match x with | .inl p => f p | .inr q => g q) (match x with | .inl p => f' p | .inr q => g' q) := by
  cases x
  · exact h1 _
  · exact h2 _
end
theorem Le.delP {α : Type} {p q : α → Option Bool} (h : ∀ x, Le (p x) (q x)) : ∀ L : List α, Le (tDelP p L) (tDelP q L)
  | [] => Le.rfl' _
  | x :: xs => Le.bd (h x) fun b => Le.bd (Le.delP h xs) fun _ => Le.rfl' _
theorem Le.delC {α σ : Type} {p q : α → σ → Option (Bool × σ)} (h : ∀ x s, Le (p x s) (q x s)) : ∀ (s : σ) (L : List α), Le (tDelC p s L) (tDelC q s L)
  | s, [] => Le.rfl' _
  | s, x :: xs => Le.bd (h x s) fun b => Le.bd (Le.delC h b.2 xs) fun _ => Le.rfl' _
end Dn
