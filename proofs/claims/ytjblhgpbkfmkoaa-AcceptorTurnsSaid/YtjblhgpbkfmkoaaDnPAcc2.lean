import Derived.Test.YtjblhgpbkfmkoaaDnPAcc
import Derived.Test.YtjblhgpbkfmkoaaDnPReport2
/-
  Acceptors: what is entered, proposed and heard. Conditions: none.
-/
open Go Dn
set_option linter.unusedVariables false
set_option linter.unusedSimpArgs false
namespace Dn.S
/-- the proof that votes make -/
def makeV (s : SizeSize) (L : List ApiAccept) : List ApiAccept × Bool :=
  match bestV L (2 * s.F + s.T + 1) with
  | none => ([], false)
  | some z => ((L.filter (hitV z.View z.Value)).take (2 * s.F + s.T + 1).toNat, true)
theorem bestV_some {L : List ApiAccept} {need : Int} {z : ApiAccept} (h : bestV L need = some z) : z ∈ L ∧ 1 ≤ need ∧ need ≤ (cntV L z.View z.Value : Int) ∧ ∀ y ∈ L, goodV L need y = true → y.View ≤ z.View := by
  have := bestV_spec L need
  rw [h] at this
  obtain ⟨h1, h2, h3⟩ := this
  unfold goodV at h2
  simp only [Bool.and_eq_true, decide_eq_true_eq] at h2
  exact ⟨h1, h2.1, h2.2, h3⟩
theorem proofMake_eq {s : SizeSize} (hs : SizeOK s) {L : List ApiAccept} (hv : ∀ e ∈ L, 0 ≤ e.View) (hl : L.length < 2 ^ 32) : tProofMake s ⟨L⟩ = some (makeV s L) := by
  unfold tProofMake makeV
  rw [sizeProof_eq hs]
  simp only [bd_s]
  rw [tallybest_eq _ hv hl]
  simp only [bd_s]
  cases hb : bestV L (2 * s.F + s.T + 1) with
  | none => simp [hb]
  | some z =>
    obtain ⟨_, h1, h2, _⟩ := bestV_some hb
    have hso := (SizeOK_iff s).1 hs
    simp only [resV_some, Bool.not_true, Bool.false_eq_true, if_false]
    rw [voters_eq L _ _ hl]
    simp only [bd_s]
    rw [if_pos ⟨by decide, by omega, by unfold cntV at h2; exact h2⟩]
    rfl
theorem r19Make_eq {s : SizeSize} (hs : SizeOK s) {L : List ApiAccept} (hl : L.length < 2 ^ 32) : tR19Make (plS s) ⟨L⟩ = some (makeV s L) := by
  unfold tR19Make makeV
  rw [r07Proof_eq hs]
  simp only [bd_s]
  rw [r18best_eq L _ hl]
  simp only [bd_s]
  cases hb : bestV L (2 * s.F + s.T + 1) with
  | none => simp [hb]
  | some z =>
    obtain ⟨_, h1, h2, _⟩ := bestV_some hb
    have hso := (SizeOK_iff s).1 hs
    simp only [resV_some, Bool.not_true, Bool.false_eq_true, if_false]
    rw [r18voters_eq L _ _ hl]
    simp only [bd_s]
    rw [if_pos ⟨by decide, by omega, by unfold cntV at h2; exact h2⟩]
    rfl
theorem makeV_len (s : SizeSize) (L : List ApiAccept) : (makeV s L).1.length ≤ L.length := by
  unfold makeV
  cases bestV L (2 * s.F + s.T + 1) with
  | none => simp
  | some z => simp only; exact Nat.le_trans (List.length_take_le' _ _) (List.length_filter_le _ _)
theorem makeV_mem {s : SizeSize} {L : List ApiAccept} {e : ApiAccept} (h : e ∈ (makeV s L).1) : e ∈ L := by
  unfold makeV at h
  cases hb : bestV L (2 * s.F + s.T + 1) with
  | none => rw [hb] at h; simp at h
  | some z => rw [hb] at h; exact (List.mem_filter.1 (List.mem_of_mem_take h)).1
/-- a proof that votes make is one -/
theorem makeV_right {s : SizeSize} (hs : SizeOK s) {L : List ApiAccept} (hr : RightV L) (hb : ∀ e ∈ L, e.By < nOf s) (h : (makeV s L).2 = true) : RightP s (makeV s L).1 := by
  have hmem := @makeV_mem s L
  unfold makeV at *
  cases hz : bestV L (2 * s.F + s.T + 1) with
  | none => rw [hz] at h; simp at h
  | some z =>
    rw [hz] at hmem
    obtain ⟨_, h1, h2, _⟩ := bestV_some hz
    simp only at hmem ⊢
    refine ⟨hs, ?_, ⟨fun e he => hr.all e (hmem he), ?_⟩, fun e he => hb e (hmem he), fun e he f hf => ?_⟩
    · unfold cntV at h2
      rw [List.length_take]
      omega
    · exact hr.inc.sublist ((List.take_sublist _ _).trans List.filter_sublist)
    · have g1 := (List.mem_filter.1 (List.mem_of_mem_take he)).2
      have g2 := (List.mem_filter.1 (List.mem_of_mem_take hf)).2
      unfold hitV at g1 g2
      simp only [Bool.and_eq_true, decide_eq_true_eq] at g1 g2
      exact ⟨by rw [g1.1, g2.1], by rw [g1.2, g2.2]⟩
def enterA (a : AcceptorAcceptor) (view : Int) : AcceptorAcceptor × ApiReport × Bool :=
  if view ≤ a.View ∨ 100000 < view then (a, ⟨0, 0, false, 0, [], []⟩, false) else (⟨a.S, a.Me, view, a.Has, a.At, a.Value, a.Proof, ⟨[]⟩⟩, ⟨a.Me, view, a.Has, a.At, a.Value, a.Proof⟩, true)
theorem or_some {p q : Prop} [Decidable p] [Decidable q] : (if p then some true else some (decide q) : Option Bool) = some (decide (p ∨ q)) := by
  by_cases hp : p <;> by_cases hq : q <;> simp [hp, hq]
theorem enter_eq (a : AcceptorAcceptor) (view : Int) : tAcceptorEnter a view = some (enterA a view) := by
  unfold tAcceptorEnter enterA
  rw [or_some]
  by_cases h : view ≤ a.View ∨ 100000 < view
  · simp only [h, decide_true, bd_s, if_true]
  · simp only [h, decide_false, bd_s, Bool.false_eq_true, if_false]; rfl
theorem r21enter_eq (a : AcceptorAcceptor) (view : Int) : tR21Enter (plA a) view = some (plA (enterA a view).1, (enterA a view).2) := by
  unfold tR21Enter enterA
  have e : (plA a).View = a.View := rfl
  rw [e, or_some]
  by_cases h : view ≤ a.View ∨ 100000 < view
  · simp only [h, decide_true, bd_s, if_true]
  · simp only [h, decide_false, bd_s, Bool.false_eq_true, if_false]; rfl
/-- what lets it accept -/
def freeA (a : AcceptorAcceptor) (view : Int) (value : List UInt8) : Prop := view = a.View ∧ ¬ (a.Has = true ∧ a.At = view) ∧ value.length ≤ 6000
instance (a : AcceptorAcceptor) (view : Int) (value : List UInt8) : Decidable (freeA a view value) := inferInstanceAs (Decidable (_ ∧ _ ∧ _))
def proposeA (a : AcceptorAcceptor) (view : Int) (value : List UInt8) (ok : Bool) : AcceptorAcceptor × ApiAccept × Bool :=
  if ok = true then (⟨a.S, a.Me, a.View, true, view, value, a.Proof, a.Votes⟩, ⟨a.Me, view, value⟩, true) else (a, ⟨0, 0, []⟩, false)
theorem propose_eq (a : AcceptorAcceptor) (view : Int) (value : List UInt8) (cert : List ApiReport) (hp : ∀ r ∈ cert, r.Proof.length < 2 ^ 32) (hl : cert.length < 2 ^ 32) :
    ∃ ok : Bool, tAcceptorPropose a view value cert = some (proposeA a view value ok) ∧ tR21Propose (plA a) view value cert = some (plA (proposeA a view value ok).1, (proposeA a view value ok).2) ∧
      (ok = true → freeA a view value ∧ (¬ (view = 0 ∧ cert = []) → tR20Vouches (plS a.S) view cert value = some true)) := by
  obtain ⟨b, e1, e2⟩ := vouches_same a.S view cert value hp hl
  unfold tAcceptorPropose tR21Propose
  have c0 : (plA a).View = a.View := rfl
  have c1 : (plA a).Has = a.Has := rfl
  have c2 : (plA a).At = a.At := rfl
  have c3 : (plA a).S = plS a.S := rfl
  rw [c0, c1, c2, c3]
  have hfree : (if view = 0 then some (decide ((cert.length : Int) = 0)) else some false : Option Bool) = some (decide (view = 0 ∧ cert = [])) := by
    by_cases g1 : view = 0
    · by_cases g2 : cert = []
      · simp [g1, g2]
      · have : ¬ ((cert.length : Int) = 0) := by
          intro h; exact g2 (List.eq_nil_of_length_eq_zero (by omega))
        simp [g1, g2, this]
    · simp [g1]
  rw [hfree]
  simp only [bd_s]
  by_cases g1 : view = a.View
  rotate_left
  · exact ⟨false, by simp [g1, proposeA], by simp [g1, proposeA], fun h => (by cases h)⟩
  by_cases g3 : (6000 : Int) < (value.length : Int)
  · refine ⟨false, ?_, ?_, fun h => (by cases h)⟩
    · by_cases g2 : a.At = view <;> cases a.Has <;> simp [g1, g2, g3, proposeA]
    · by_cases g2 : a.At = view <;> cases a.Has <;> simp [g1, g2, g3, proposeA]
  have hv : value.length ≤ 6000 := by omega
  by_cases g2 : a.Has = true ∧ a.At = view
  · exact ⟨false, by simp [g1, g2.1, g2.2, proposeA], by simp [g1, g2.1, g2.2, proposeA], fun h => (by cases h)⟩
  have hA : (if !decide (view = a.View) then some true else if a.Has then (if a.At = view then some true else some (decide ((6000 : Int) < (value.length : Int)))) else some (decide ((6000 : Int) < (value.length : Int))) : Option Bool) = some false := by
    cases hh : a.Has with
    | false => simp [g1]; omega
    | true => 
      have : ¬ a.At = view := fun h => g2 ⟨hh, h⟩
      rw [g1] at this
      simp [g1, this]; omega
  rw [hA]
  simp only [bd_s, Bool.false_eq_true, if_false]
  by_cases g4 : view = 0 ∧ cert = []
  · refine ⟨true, ?_, ?_, fun _ => ⟨⟨g1, g2, hv⟩, fun h => absurd g4 h⟩⟩
    · simp [g4, proposeA]
    · have : (if !decide (view = a.View) then some true else if a.Has then (if a.At = view then some true else if (6000 : Int) < (value.length : Int) then some true else if !(decide (view = 0 ∧ cert = [])) then bd (tR20Vouches (plS a.S) view cert value) fun rA => some (!rA) else some false) else if (6000 : Int) < (value.length : Int) then some true else if !(decide (view = 0 ∧ cert = [])) then bd (tR20Vouches (plS a.S) view cert value) fun rA => some (!rA) else some false : Option Bool) = some false := by
        rw [decide_eq_true g4]
        cases hh : a.Has with
        | false => simp [g1, g3]
        | true =>
          have : ¬ a.At = view := fun h => g2 ⟨hh, h⟩
          rw [g1] at this
          simp [g1, this, g3]
      rw [this]
      simp only [bd_s, Bool.false_eq_true, if_false, proposeA, if_true]; rfl
  · refine ⟨b, ?_, ?_, fun h => ⟨⟨g1, g2, hv⟩, fun _ => by rw [e2, h]⟩⟩
    · simp only [g4, decide_false, Bool.false_eq_true, if_false, e1, bd_s]
      cases b <;> rfl
    · have : (if !decide (view = a.View) then some true else if a.Has then (if a.At = view then some true else if (6000 : Int) < (value.length : Int) then some true else if !(decide (view = 0 ∧ cert = [])) then bd (tR20Vouches (plS a.S) view cert value) fun rA => some (!rA) else some false) else if (6000 : Int) < (value.length : Int) then some true else if !(decide (view = 0 ∧ cert = [])) then bd (tR20Vouches (plS a.S) view cert value) fun rA => some (!rA) else some false : Option Bool) = some (!b) := by
        rw [decide_eq_false g4, e2]
        cases hh : a.Has with
        | false => simp [g1, g3]
        | true =>
          have : ¬ a.At = view := fun h => g2 ⟨hh, h⟩
          rw [g1] at this
          simp [g1, this, g3]
      rw [this]
      cases b <;> rfl
def hearA (a : AcceptorAcceptor) (v : ApiAccept) : AcceptorAcceptor × List ApiAccept × Bool :=
  if nOf a.S ≤ v.By ∨ v.View ≠ a.View then (a, [], false)
  else if ¬ MayV v ∨ (makeV a.S (addV a.Votes.L v).1).2 = false ∨ a.View ≤ (ofP a.Proof).1 then (⟨a.S, a.Me, a.View, a.Has, a.At, a.Value, a.Proof, ⟨(addV a.Votes.L v).1⟩⟩, [], false)
  else (⟨a.S, a.Me, a.View, a.Has, a.At, a.Value, (makeV a.S (addV a.Votes.L v).1).1, ⟨(addV a.Votes.L v).1⟩⟩, (makeV a.S (addV a.Votes.L v).1).1, true)
theorem addV_all {a : AcceptorAcceptor} {v : ApiAccept} (hr : RightA a) (h1 : v.By < nOf a.S) (h2 : v.View = a.View) : ∀ e ∈ (addV a.Votes.L v).1, e.By < nOf a.S ∧ e.View = a.View := by
  intro e he
  unfold addV at he
  split at he
  · rcases (putV_mem hr.votes.inc).1 he with rfl | ⟨he, _⟩
    · exact ⟨h1, h2⟩
    · exact hr.all e he
  · exact hr.all e he
theorem makeV_head {a : AcceptorAcceptor} {v : ApiAccept} (hr : RightA a) (h1 : v.By < nOf a.S) (h2 : v.View = a.View) (hm : (makeV a.S (addV a.Votes.L v).1).2 = true) : ∃ h : 0 < (makeV a.S (addV a.Votes.L v).1).1.length, (makeV a.S (addV a.Votes.L v).1).1[0].View = a.View := by
  have hp := makeV_right hr.sz (addV_right hr.votes) (fun e he => (addV_all hr h1 h2 e he).1) hm
  have hso := (SizeOK_iff a.S).1 hr.sz
  have hl := hp.len
  refine ⟨by omega, ?_⟩
  exact (addV_all hr h1 h2 _ (makeV_mem (List.getElem_mem _))).2
theorem hear_eq {a : AcceptorAcceptor} (hr : RightA a) (hl : a.Votes.L.length < 2 ^ 31) (v : ApiAccept) : tAcceptorHear a v = some (hearA a v) ∧ tR21Hear (plA a) v = some (plA (hearA a v).1, (hearA a v).2) := by
  have hs := hr.sz
  have hal := addV_len (L := a.Votes.L) (a := v)
  have ev : ∀ t : TallyTally, tTallyAdd t v = tTallyAdd ⟨t.L⟩ v := fun _ => rfl
  unfold tAcceptorHear tR21Hear hearA
  have c3 : (plA a).S = plS a.S := rfl
  have c4 : (plA a).View = a.View := rfl
  have c5 : (plA a).Votes = ⟨a.Votes.L⟩ := rfl
  have c6 : (plA a).Proof = a.Proof := rfl
  rw [c3, c4, c5, c6, sizeN_eq hs, r07N_eq hs]
  simp only [bd_s, proofOf_eq, r19Of_eq, tallymay_eq, r18may_eq]
  rw [ev a.Votes, tallyadd_eq hr.votes.inc (by omega), r18add_eq hr.votes.inc (by omega)]
  simp only [bd_s]
  have hnot : (!decide (v.View = a.View)) = decide (v.View ≠ a.View) := by by_cases h : v.View = a.View <;> simp [h]
  rw [hnot, or_some]
  show _ ∧ _
  by_cases g : nOf a.S ≤ v.By ∨ v.View ≠ a.View
  · have g' : 3 * a.S.F + 2 * a.S.T + 1 ≤ v.By ∨ v.View ≠ a.View := g
    rw [if_pos g]
    refine ⟨?_, ?_⟩
    · rw [decide_eq_true g']; simp
    · rw [decide_eq_true g']
      by_cases hm : MayV v <;> simp [hm]
  have g' : ¬ (3 * a.S.F + 2 * a.S.T + 1 ≤ v.By ∨ v.View ≠ a.View) := g
  rw [if_neg g]
  have gb : v.By < nOf a.S := by unfold nOf; omega
  have gv : v.View = a.View := by
    by_cases h : v.View = a.View
    · exact h
    · exact absurd (.inr h) g
  rw [decide_eq_false g']
  have hrt := addV_right (a := v) hr.votes
  rw [proofMake_eq hs (fun e he => (hrt.all e he).2.1) (by omega), r19Make_eq hs (by omega)]
  simp only [bd_s, Bool.false_eq_true, if_false]
  by_cases hm : MayV v
  rotate_left
  · have hadd : (addV a.Votes.L v).1 = a.Votes.L := by unfold addV; rw [if_neg (fun h => hm h.1)]
    simp only [hm, decide_false, Bool.not_false, if_true, bd_s, hadd, not_false_eq_true, true_or]
    exact ⟨trivial, trivial⟩
  simp only [hm, decide_true, Bool.not_true, Bool.false_eq_true, if_false, not_true_eq_false, false_or, bd_s]
  cases hk : (makeV a.S (addV a.Votes.L v).1).2 with
  | false => simp only [Bool.not_false, if_true, bd_s, true_or]; exact ⟨trivial, rfl⟩
  | true =>
    obtain ⟨h0, h1⟩ := makeV_head hr gb gv hk
    simp only [Bool.not_true, Bool.false_eq_true, if_false, bd_s, ix_zero h0, h1, false_or, Bool.true_eq_false]
    by_cases h2 : a.View ≤ (ofP a.Proof).1
    · simp only [h2, decide_true, if_true]; exact ⟨trivial, rfl⟩
    · simp only [h2, decide_false, Bool.false_eq_true, if_false]; exact ⟨trivial, rfl⟩
theorem short_eq (l : List ApiReport) : Gives (tL21Short l) fun b => b = true → l.length ≤ 30 ∧ ∀ r ∈ l, r.Value.length ≤ 6100 ∧ r.Proof.length ≤ 40 := by
  unfold tL21Short
  refine Gives.bd (P := fun r => r = .inr false ∨ (r = .inl () ∧ l.length ≤ 30 ∧ ∀ r ∈ l, r.Value.length ≤ 6100 ∧ r.Proof.length ≤ 40)) ?_ ?_
  · refine Gives.count (fun k => (k : Int)) l.length (fun k => k ≤ 30 ∧ ∀ j (hj : j < l.length), j < k → l[j].Value.length ≤ 6100 ∧ l[j].Proof.length ≤ 40) rfl ⟨by omega, fun j _ h => by omega⟩ (fun k hk hp => ?_) (fun hp => ?_)
    · unfold tL21ShortL1
      simp only [show ((k : Int) < (l.length : Int)) by omega, if_true]
      by_cases h30 : k = 30
      · simp only [show ((k : Int) = 30) by omega, if_true, bd_s]
        exact .mk (.inl rfl)
      · simp only [show ¬ ((k : Int) = 30) by omega, if_false, ix_nat hk, bd_s]
        by_cases hv : (6100 : Int) < (l[k].Value.length : Int)
        · simp only [hv, if_true, bd_s]; exact .mk (.inl rfl)
        · simp only [hv, if_false]
          obtain ⟨b, e, hb⟩ := votes_eq l[k].Proof
          rw [e]
          simp only [bd_s]
          cases b with
          | false => simp only [Bool.not_false, if_true]; exact .mk (.inl rfl)
          | true =>
            simp only [Bool.not_true, Bool.false_eq_true, if_false]
            rw [wrap64 (by omega) (by omega)]
            refine .mk ⟨by omega, by omega, fun j hj hjk => ?_⟩
            by_cases hjk2 : j = k
            · subst hjk2; exact ⟨by omega, (hb rfl).1⟩
            · exact hp.2 j hj (by omega)
    · unfold tL21ShortL1
      simp only [show ¬ ((l.length : Int) < (l.length : Int)) by omega, if_false]
      refine .mk (.inr ⟨rfl, hp.1, fun e he => ?_⟩)
      obtain ⟨k, hk, rfl⟩ := List.mem_iff_getElem.1 he
      exact hp.2 k hk hk
  · rintro r (rfl | ⟨rfl, h⟩)
    · exact .mk (by simp)
    · exact .mk (fun _ => h)
theorem acceptorTurns_all (a : AcceptorAcceptor) (a1 : L21Call) : tL21AcceptorTurns a a1 = some true := by
  unfold tL21AcceptorTurns
  obtain ⟨b1, e1, h1⟩ := few_eq a
  rw [e1]
  simp only [bd_s, evL21Alive]
  cases b1 with
  | false => simp
  | true =>
    obtain ⟨b2, e2, h2⟩ := short_eq a1.Cert
    rw [e2]
    simp only [bd_s, Bool.not_true, Bool.false_eq_true, if_false]
    cases b2 with
    | false => simp
    | true =>
      obtain ⟨g1, g2, g3⟩ := h1 rfl
      obtain ⟨g4, g5⟩ := h2 rfl
      simp only [Bool.not_true, Bool.false_eq_true, if_false, plainA_eq, bd_s]
      by_cases c1 : (6100 : Int) < (a1.Value.length : Int)
      · simp [c1]
      by_cases c2 : (6100 : Int) < (a1.Vote.Value.length : Int)
      · simp [c1, c2]
      obtain ⟨b3, e3, h3⟩ := r21Right_eq a (by omega) (by omega)
      simp only [c1, c2, if_false, e3, bd_s]
      cases b3 with
      | false => simp
      | true =>
        have hr := h3.1 rfl
        simp only [Bool.not_true, Bool.false_eq_true, if_false, enter_eq, r21enter_eq, bd_s]
        have hE : (plA (enterA a a1.View).1).Proof.length < 2 ^ 60 ∧ (plA (enterA a a1.View).1).Votes.L.length < 2 ^ 60 := by
          unfold enterA; split <;> exact ⟨by simp only [plA]; omega, by simp only [plA, List.length_nil]; omega⟩
        have hEr : (enterA a a1.View).2.1.Proof.length < 2 ^ 60 := by
          unfold enterA; split
          · simp
          · simp only; omega
        rw [r21Same_eq _ _ hE.1 hE.2]
        have one_self : ∀ r : ApiReport, r.Proof.length < 2 ^ 60 → tR20One r r = some true := by
          intro r h
          unfold tR20One
          simp [r18same_eq _ _ h]
        simp only [decide_true, Bool.not_true, Bool.false_eq_true, if_false, bd_s, one_self _ hEr]
        obtain ⟨ok, p1, p2, _⟩ := propose_eq a a1.View a1.Value a1.Cert (fun r hr => by have := (g5 r hr).2; omega) (by omega)
        rw [p1, p2]
        have hP : (plA (proposeA a a1.View a1.Value ok).1).Proof.length < 2 ^ 60 ∧ (plA (proposeA a a1.View a1.Value ok).1).Votes.L.length < 2 ^ 60 := by
          unfold proposeA; split <;> exact ⟨by simp only [plA]; omega, by simp only [plA]; omega⟩
        simp only [bd_s]
        rw [r21Same_eq _ _ hP.1 hP.2]
        simp only [decide_true, Bool.not_true, Bool.false_eq_true, if_false, bd_s, Bool.and_self]
        obtain ⟨q1, q2⟩ := hear_eq hr (by omega) a1.Vote
        rw [q1, q2]
        have hal := addV_len (L := a.Votes.L) (a := a1.Vote)
        have hml := makeV_len a.S (addV a.Votes.L a1.Vote).1
        have hH : (plA (hearA a a1.Vote).1).Proof.length < 2 ^ 60 ∧ (plA (hearA a a1.Vote).1).Votes.L.length < 2 ^ 60 ∧ (hearA a a1.Vote).2.1.length < 2 ^ 60 := by
          unfold hearA
          split
          · exact ⟨by simp only [plA]; omega, by simp only [plA]; omega, by simp⟩
          · split
            · exact ⟨by simp only [plA]; omega, by simp only [plA]; omega, by simp⟩
            · exact ⟨by simp only [plA]; omega, by simp only [plA]; omega, by simp only; omega⟩
        simp only [bd_s]
        rw [r21Same_eq _ _ hH.1 hH.2.1, r18same_eq _ _ hH.2.2, r21Same_eq (plA a) (plA a) (by simp only [plA]; omega) (by simp only [plA]; omega)]
        simp only [decide_true, if_true, bd_s]
end Dn.S
