import Derived.Test.YtjblhgpbkfmkoaaDnPAcc
/-
  Learners: which may be, which are alike, what they come to; LearnerMay, LearnerTurns. Conditions: none.
-/
open Go Dn
set_option linter.unusedVariables false
set_option linter.unusedSimpArgs false
namespace Dn.S
def plL (l : LearnerLearner) : R22Learner := ⟨plS l.S, ⟨l.Accepts.L⟩, ⟨l.Commits.L⟩, ⟨l.Told.L⟩, l.Done, l.Value⟩
theorem plainL_eq (l : LearnerLearner) : tL22Plain l = some (plL l) := rfl
theorem sizedL_eq (s : SizeSize) : tL22Sized s = some (plS s) := rfl
theorem votesL_eq (l : List ApiAccept) : Gives (tL22Votes l) fun b => b = true → l.length ≤ 40 ∧ ∀ e ∈ l, e.Value.length ≤ 6100 := votes_eq l
theorem fewL_eq (a : LearnerLearner) : Gives (tL22Few a) fun b => b = true → a.Value.length ≤ 6100 ∧ a.Accepts.L.length ≤ 40 ∧ a.Commits.L.length ≤ 40 ∧ a.Told.L.length ≤ 40 := by
  unfold tL22Few
  obtain ⟨b1, e1, h1⟩ := votesL_eq a.Accepts.L
  obtain ⟨b2, e2, h2⟩ := votesL_eq a.Commits.L
  obtain ⟨b3, e3, h3⟩ := votesL_eq a.Told.L
  simp only [e1, e2, e3, bd_s, bd_id]
  by_cases hv : (a.Value.length : Int) ≤ 6100
  · simp only [hv, if_true]
    cases b1 with
    | false => exact .mk (by simp)
    | true =>
      cases b2 with
      | false => exact .mk (by simp)
      | true => simp only [if_true]; exact .mk fun h => ⟨by omega, (h1 rfl).1, (h2 rfl).1, (h3 h).1⟩
  · simp only [hv, if_false]; exact .mk (by simp)
/-- a learner that may be -/
def WithV (s : SizeSize) (L : List ApiAccept) (last : Int) : Prop := (∀ e ∈ L, e.By < nOf s ∧ e.View ≤ last) ∧ RightV L
structure RightL (l : LearnerLearner) : Prop where
  sz : SizeOK l.S
  len : l.Value.length ≤ 6000
  val : l.Done = false → l.Value = []
  acc : WithV l.S l.Accepts.L 100000
  com : WithV l.S l.Commits.L 100000
  told : WithV l.S l.Told.L 0
theorem within_eq (l : LearnerLearner) (hs : SizeOK l.S) (L : List ApiAccept) (last : Int) (hl : L.length < 2 ^ 32) : Gives (tLearnerLearnerIsWithin l ⟨L⟩ last) fun b => b = true ↔ WithV l.S L last := by
  unfold tLearnerLearnerIsWithin
  obtain ⟨r2, e2, h2⟩ := tallyright_eq L (by omega)
  refine Gives.bd (Loop_all L.length (fun k => ∃ hk : k < L.length, L[k].By < nOf l.S ∧ L[k].View ≤ last) false (fun k hk _ => ?_) ?_) ?_
  · unfold tLearnerLearnerIsWithinL1
    simp only [show ((k : Int) < (L.length : Int)) by omega, if_true, ix_nat hk, sizeN_eq hs, bd_s]
    rw [wrap64 (x := (k : Int) + 1) (by omega) (by omega), show (k : Int) + 1 = ((k + 1 : Nat) : Int) by omega]
    by_cases c1 : 3 * l.S.F + 2 * l.S.T + 1 ≤ L[k].By
    · rw [if_pos c1]
      simp only [bd_s, if_true]
      exact ⟨fun ⟨_, h, _⟩ => by unfold nOf at h; omega, fun _ => trivial⟩
    · rw [if_neg c1]
      simp only [bd_s]
      by_cases c2 : last < L[k].View
      · rw [decide_eq_true c2]
        simp only [if_true]
        exact ⟨fun ⟨_, _, h⟩ => by omega, fun _ => trivial⟩
      · rw [decide_eq_false c2]
        simp only [Bool.false_eq_true, if_false]
        exact ⟨fun _ => trivial, fun h => absurd ⟨hk, by unfold nOf; omega, by omega⟩ h⟩
  · unfold tLearnerLearnerIsWithinL1
    simp only [show ¬ ((L.length : Int) < (L.length : Int)) by omega, if_false]
  · rintro r (⟨rfl, h⟩ | ⟨rfl, k, hk, h⟩)
    · dsimp only
      rw [e2, bd_s]
      refine .mk ⟨fun hr => ⟨fun e he => ?_, h2.1 hr⟩, fun hr => h2.2 hr.2⟩
      obtain ⟨k, hk, rfl⟩ := List.mem_iff_getElem.1 he
      exact (h k hk).2
    · exact .mk ⟨fun h => (by cases h), fun hr => absurd ⟨hk, hr.1 _ (List.getElem_mem hk)⟩ h⟩
theorem below22_eq (s : SizeSize) (hs : SizeOK s) (L : List ApiAccept) (last : Int) (hl : L.length < 2 ^ 32) : Gives (tR22Below (plS s) ⟨L⟩ last) fun b => b = true ↔ WithV s L last := by
  unfold tR22Below
  obtain ⟨r2, e2, h2⟩ := r18right_eq L (by omega)
  refine Gives.bd (Loop_all L.length (fun k => ∃ hk : k < L.length, L[k].By < nOf s ∧ L[k].View ≤ last) false (fun k hk _ => ?_) ?_) ?_
  · unfold tR22BelowL1
    simp only [show ((k : Int) < (L.length : Int)) by omega, if_true, ix_nat hk, r07N_eq hs, bd_s]
    rw [wrap64 (x := (k : Int) + 1) (by omega) (by omega), show (k : Int) + 1 = ((k + 1 : Nat) : Int) by omega]
    by_cases c1 : 3 * s.F + 2 * s.T + 1 ≤ L[k].By
    · rw [if_pos c1]
      simp only [bd_s, if_true]
      exact ⟨fun ⟨_, h, _⟩ => by unfold nOf at h; omega, fun _ => trivial⟩
    · rw [if_neg c1]
      simp only [bd_s]
      by_cases c2 : last < L[k].View
      · rw [decide_eq_true c2]
        simp only [if_true]
        exact ⟨fun ⟨_, _, h⟩ => by omega, fun _ => trivial⟩
      · rw [decide_eq_false c2]
        simp only [Bool.false_eq_true, if_false]
        exact ⟨fun _ => trivial, fun h => absurd ⟨hk, by unfold nOf; omega, by omega⟩ h⟩
  · unfold tR22BelowL1
    simp only [show ¬ ((L.length : Int) < (L.length : Int)) by omega, if_false]
  · rintro r (⟨rfl, h⟩ | ⟨rfl, k, hk, h⟩)
    · dsimp only
      rw [e2, bd_s]
      refine .mk ⟨fun hr => ⟨fun e he => ?_, h2.1 hr⟩, fun hr => h2.2 hr.2⟩
      obtain ⟨k, hk, rfl⟩ := List.mem_iff_getElem.1 he
      exact (h k hk).2
    · exact .mk ⟨fun h => (by cases h), fun hr => absurd ⟨hk, hr.1 _ (List.getElem_mem hk)⟩ h⟩
theorem learnRight_eq (l : LearnerLearner) (h1 : l.Accepts.L.length < 2 ^ 32) (h2 : l.Commits.L.length < 2 ^ 32) (h3 : l.Told.L.length < 2 ^ 32) : Gives (tLearnerRight l) fun b => b = true ↔ RightL l := by
  unfold tLearnerRight
  rw [sizeRight_eq]
  have hw : (if (l.Value.length : Int) ≤ 6000 then if l.Done then some true else some (decide (l.Value = ([] : List UInt8))) else some false) = some (decide (l.Value.length ≤ 6000 ∧ (l.Done = false → l.Value = []))) := by
    by_cases c : (l.Value.length : Int) ≤ 6000
    · rw [if_pos c]
      have c' : l.Value.length ≤ 6000 := by omega
      cases hd : l.Done <;> simp [c']
    · rw [if_neg c, decide_eq_false (fun h => c (by omega))]
  rw [hw, bd_s, bd_s, bd_id]
  by_cases hs : SizeOK l.S
  rotate_left
  · rw [decide_eq_false hs, if_neg (by decide)]; exact .mk ⟨fun h => (by cases h), fun h => absurd h.sz hs⟩
  rw [decide_eq_true hs, if_pos rfl]
  by_cases hv : l.Value.length ≤ 6000 ∧ (l.Done = false → l.Value = [])
  rotate_left
  · rw [decide_eq_false hv, if_neg (by decide)]; exact .mk ⟨fun h => (by cases h), fun h => absurd ⟨h.len, h.val⟩ hv⟩
  rw [decide_eq_true hv, if_pos rfl]
  obtain ⟨b1, e1, g1⟩ := within_eq l hs l.Accepts.L 100000 h1
  obtain ⟨b2, e2, g2⟩ := within_eq l hs l.Commits.L 100000 h2
  obtain ⟨b3, e3, g3⟩ := within_eq l hs l.Told.L 0 h3
  have e1 : tLearnerLearnerIsWithin l l.Accepts 100000 = some b1 := e1
  have e2 : tLearnerLearnerIsWithin l l.Commits 100000 = some b2 := e2
  have e3 : tLearnerLearnerIsWithin l l.Told 0 = some b3 := e3
  rw [e1, bd_s, e2, bd_s, e3, bd_s]
  cases b1 with
  | false => exact .mk ⟨fun h => (by cases h), fun h => by have := g1.2 h.acc; cases this⟩
  | true =>
    cases b2 with
    | false => exact .mk ⟨fun h => (by cases h), fun h => by have := g2.2 h.com; cases this⟩
    | true => exact .mk ⟨fun h => ⟨hs, hv.1, hv.2, g1.1 rfl, g2.1 rfl, g3.1 h⟩, fun h => g3.2 h.told⟩
theorem r22Right_eq (l : LearnerLearner) (h1 : l.Accepts.L.length < 2 ^ 32) (h2 : l.Commits.L.length < 2 ^ 32) (h3 : l.Told.L.length < 2 ^ 32) : Gives (tR22Right (plL l)) fun b => b = true ↔ RightL l := by
  unfold tR22Right
  have e0 : tR07Right (plL l).S = some (decide (SizeOK l.S)) := r07Right_eq l.S
  rw [e0, bd_s]
  show Gives (bd (if !decide (SizeOK l.S) then some true else if (6000 : Int) < (l.Value.length : Int) then some true else if !l.Done then some (!decide (l.Value = ([] : List UInt8))) else some false) _) _
  by_cases hs : SizeOK l.S
  rotate_left
  · rw [decide_eq_false hs, if_pos (by decide), bd_s, if_pos rfl]; exact .mk ⟨fun h => (by cases h), fun h => absurd h.sz hs⟩
  have hw : (if !decide (SizeOK l.S) then some true else if (6000 : Int) < (l.Value.length : Int) then some true else if !l.Done then some (!decide (l.Value = ([] : List UInt8))) else some false) = some (!decide (l.Value.length ≤ 6000 ∧ (l.Done = false → l.Value = []))) := by
    rw [decide_eq_true hs, if_neg (by decide)]
    by_cases c : (6000 : Int) < (l.Value.length : Int)
    · rw [if_pos c, decide_eq_false (fun h => by omega)]; rfl
    · rw [if_neg c]
      have c' : l.Value.length ≤ 6000 := by omega
      cases hd : l.Done <;> simp [c']
  rw [hw, bd_s]
  by_cases hv : l.Value.length ≤ 6000 ∧ (l.Done = false → l.Value = [])
  rotate_left
  · rw [decide_eq_false hv, if_pos (by decide)]; exact .mk ⟨fun h => (by cases h), fun h => absurd ⟨h.len, h.val⟩ hv⟩
  rw [decide_eq_true hv, if_neg (by decide), bd_id]
  obtain ⟨b1, e1, g1⟩ := below22_eq l.S hs l.Accepts.L 100000 h1
  obtain ⟨b2, e2, g2⟩ := below22_eq l.S hs l.Commits.L 100000 h2
  obtain ⟨b3, e3, g3⟩ := below22_eq l.S hs l.Told.L 0 h3
  have e1 : tR22Below (plL l).S (plL l).Accepts 100000 = some b1 := e1
  have e2 : tR22Below (plL l).S (plL l).Commits 100000 = some b2 := e2
  have e3 : tR22Below (plL l).S (plL l).Told 0 = some b3 := e3
  rw [e1, bd_s, e2, bd_s, e3, bd_s]
  cases b1 with
  | false => exact .mk ⟨fun h => (by cases h), fun h => by have := g1.2 h.acc; cases this⟩
  | true =>
    cases b2 with
    | false => exact .mk ⟨fun h => (by cases h), fun h => by have := g2.2 h.com; cases this⟩
    | true => exact .mk ⟨fun h => ⟨hs, hv.1, hv.2, g1.1 rfl, g2.1 rfl, g3.1 h⟩, fun h => g3.2 h.told⟩
theorem learnSame_eq (a b : LearnerLearner) (h1 : a.Accepts.L.length < 2 ^ 60) (h2 : a.Commits.L.length < 2 ^ 60) (h3 : a.Told.L.length < 2 ^ 60) : tLearnerSame a b = some (decide (a = b)) := by
  obtain ⟨⟨s1, s2⟩, ⟨p⟩, ⟨q⟩, ⟨r⟩, d, v⟩ := a
  obtain ⟨⟨t1, t2⟩, ⟨p'⟩, ⟨q'⟩, ⟨r'⟩, d', v'⟩ := b
  unfold tLearnerSame
  simp only [tallysame_eq _ _ h1, tallysame_eq _ _ h2, tallysame_eq _ _ h3, bd_s, bd_id]
  by_cases c1 : s1 = t1 <;> by_cases c2 : s2 = t2 <;> by_cases c3 : d = d' <;> by_cases c4 : v = v' <;> by_cases c5 : p = p' <;> by_cases c6 : q = q' <;> by_cases c7 : r = r' <;> simp [c1, c2, c3, c4, c5, c6, c7]
theorem r22Same_eq (a b : R22Learner) (h1 : a.Accepts.L.length < 2 ^ 60) (h2 : a.Commits.L.length < 2 ^ 60) (h3 : a.Told.L.length < 2 ^ 60) : tR22Same a b = some (decide (a = b)) := by
  obtain ⟨⟨s1, s2⟩, ⟨p⟩, ⟨q⟩, ⟨r⟩, d, v⟩ := a
  obtain ⟨⟨t1, t2⟩, ⟨p'⟩, ⟨q'⟩, ⟨r'⟩, d', v'⟩ := b
  unfold tR22Same
  simp only [r18same_eq _ _ h1, r18same_eq _ _ h2, r18same_eq _ _ h3, bd_s, bd_id]
  by_cases c1 : s1 = t1 <;> by_cases c2 : s2 = t2 <;> by_cases c3 : d = d' <;> by_cases c4 : v = v' <;> by_cases c5 : p = p' <;> by_cases c6 : q = q' <;> by_cases c7 : r = r' <;> simp [c1, c2, c3, c4, c5, c6, c7]
theorem plL_inj {a b : LearnerLearner} : plL a = plL b ↔ a = b := by
  constructor
  · intro h
    obtain ⟨⟨s1, s2⟩, ⟨p⟩, ⟨q⟩, ⟨r⟩, d, v⟩ := a
    obtain ⟨⟨t1, t2⟩, ⟨p'⟩, ⟨q'⟩, ⟨r'⟩, d', v'⟩ := b
    simp only [plL, plS, R22Learner.mk.injEq, R07Size.mk.injEq, R18Tally.mk.injEq] at h
    obtain ⟨⟨h1, h2⟩, h3, h4, h5, h6, h7⟩ := h
    subst h1; subst h2; subst h3; subst h4; subst h5; subst h6; subst h7; rfl
  · intro h; rw [h]
def newL (s : SizeSize) : LearnerLearner × Int := if SizeOK s then (⟨s, ⟨[]⟩, ⟨[]⟩, ⟨[]⟩, false, []⟩, 0) else (⟨⟨0, 0⟩, ⟨[]⟩, ⟨[]⟩, ⟨[]⟩, false, []⟩, 1)
theorem learnNew_eq (s : SizeSize) : tLearnerNew s = some (newL s) := by
  unfold tLearnerNew newL
  rw [sizeRight_eq, bd_s]
  by_cases h : SizeOK s
  · rw [decide_eq_true h, if_neg (by decide), if_pos h]
  · rw [decide_eq_false h, if_pos (by decide), if_neg h]
theorem r22New_eq (s : SizeSize) : tR22New (plS s) = some (plL (newL s).1, (newL s).2) := by
  unfold tR22New newL
  rw [r07Right_eq, bd_s]
  by_cases h : SizeOK s
  · rw [decide_eq_true h, if_neg (by decide), if_pos h]; rfl
  · rw [decide_eq_false h, if_pos (by decide), if_neg h]; rfl
theorem learnerMay_all (a b : LearnerLearner) (s : SizeSize) : tL22LearnerMay a b s = some true := by
  unfold tL22LearnerMay
  obtain ⟨b1, e1, h1⟩ := fewL_eq a
  obtain ⟨b2, e2, h2⟩ := fewL_eq b
  rw [e1, bd_s, evL22Alive]
  cases b1 with
  | false => rfl
  | true =>
    rw [if_neg (by decide), e2, bd_s, bd_s]
    cases b2 with
    | false => rfl
    | true =>
      obtain ⟨_, g1, g2, g3⟩ := h1 rfl
      rw [if_neg (by decide), learnNew_eq, bd_s, sizedL_eq, bd_s, r22New_eq, bd_s, bd_s, if_pos rfl]
      obtain ⟨r1, e3, h3⟩ := learnRight_eq a (by omega) (by omega) (by omega)
      obtain ⟨r2, e4, h4⟩ := r22Right_eq a (by omega) (by omega) (by omega)
      have hr := same_ans h3 h4
      subst hr
      rw [e3, bd_s, plainL_eq, bd_s, e4, bd_s, if_pos rfl, learnSame_eq a b (by omega) (by omega) (by omega), bd_s, bd_s, plainL_eq, bd_s, r22Same_eq (plL a) (plL b) (show a.Accepts.L.length < 2 ^ 60 by omega) (show a.Commits.L.length < 2 ^ 60 by omega) (show a.Told.L.length < 2 ^ 60 by omega), bd_s]
      have hd : decide (a = b) = decide (plL a = plL b) := by rw [decide_eq_decide]; exact plL_inj.symm
      rw [hd, if_pos rfl, plainL_eq, bd_s]
      dsimp only
      have hnl : (plL (newL s).1).Accepts.L.length < 2 ^ 60 ∧ (plL (newL s).1).Commits.L.length < 2 ^ 60 ∧ (plL (newL s).1).Told.L.length < 2 ^ 60 := by
        unfold newL; split <;> exact ⟨by simp [plL], by simp [plL], by simp [plL]⟩
      rw [r22Same_eq _ _ hnl.1 hnl.2.1 hnl.2.2, decide_eq_true rfl, bd_s, if_pos rfl, decide_eq_true rfl, bd_s]
end Dn.S
