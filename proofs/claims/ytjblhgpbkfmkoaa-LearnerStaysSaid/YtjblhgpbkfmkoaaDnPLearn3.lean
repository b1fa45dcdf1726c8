import Derived.Test.YtjblhgpbkfmkoaaDnPLearn2
/-
  Learners: a proof heard; LearnerTurns. Conditions: none.
-/
open Go Dn
set_option linter.unusedVariables false
set_option linter.unusedSimpArgs false
namespace Dn.S
theorem proofOf_cons (x : ApiAccept) (r : List ApiAccept) : tProofOf (x :: r) = some (x.View, x.Value, true) := by
  unfold tProofOf
  rw [if_neg (by simp only [List.length_cons]; omega), ix_zero (by simp), ix_zero (by simp)]
  rfl
theorem committed_eq {l : LearnerLearner} (hr : RightL l) (hl : l.Commits.L.length < 2 ^ 31) (by_ : Int) (p : List ApiAccept) (hp : p.length < 2 ^ 32) : tLearnerCommitted l by_ p = some (committedL l by_ p) := by
  unfold tLearnerCommitted committedL
  obtain ⟨b, eb, hb⟩ := proofRight_eq l.S p hp
  rw [eb, bd_s]
  cases b with
  | false => rw [if_pos (by decide), if_neg (fun h => by have := hb.2 h; cases this)]
  | true =>
    have hy := hb.1 rfl
    rw [if_neg (by decide), if_pos hy]
    cases p with
    | nil => have h1 := hy.len; have h2 := hr.sz.f1; have h3 := hr.sz.t0; simp only [List.length_nil] at h1; omega
    | cons x r =>
      rw [proofOf_cons, bd_s, sizeProof_eq hr.sz, bd_s]
      unfold tLearnerLearnerHears3
      rw [deaf_eq l hr.sz ⟨by_, x.View, x.Value⟩, bd_s]
      by_cases h : deafL l ⟨by_, x.View, x.Value⟩
      · rw [decide_eq_true h, if_pos rfl, bd_s]
        simp only [if_pos h]
        rfl
      · have e1 : tTallyAdd l.Commits ⟨by_, x.View, x.Value⟩ = some (⟨(addV l.Commits.L ⟨by_, x.View, x.Value⟩).1⟩, (addV l.Commits.L ⟨by_, x.View, x.Value⟩).2) := tallyadd_eq (L := l.Commits.L) (RightV_inc hr.com.2) (by omega)
        rw [decide_eq_false h, if_neg (by decide), e1, bd_s, best_add hr.com.2 _ _ hl, bd_s, bd_s]
        simp only [if_neg h]
        unfold learnedL
        cases bestV (addV l.Commits.L ⟨by_, x.View, x.Value⟩).1 (2 * l.S.F + l.S.T + 1) <;> rfl
theorem r22committed_eq {l : LearnerLearner} (hr : RightL l) (hl : l.Commits.L.length < 2 ^ 31) (by_ : Int) (p : List ApiAccept) (hp : p.length < 2 ^ 32) : tR22Committed (plL l) by_ p = some (plL (committedL l by_ p)) := by
  unfold tR22Committed committedL
  have eN : tR07N (plL l).S = some (3 * l.S.F + 2 * l.S.T + 1) := r07N_eq hr.sz
  have eF : tR07Proof (plL l).S = some (2 * l.S.F + l.S.T + 1) := r07Proof_eq hr.sz
  obtain ⟨b, eb, hb⟩ := r19right_eq l.S p hp
  have eP : tR19Right (plL l).S p = some b := eb
  rw [eN, bd_s, eP, bd_s, eF]
  have nod : ∀ x : ApiAccept, l.Done = true → deafL l ⟨by_, x.View, x.Value⟩ := fun x h => .inl h
  by_cases hy : RightP l.S p
  · rw [if_pos hy]
    cases p with
    | nil => have h1 := hy.len; have h2 := hr.sz.f1; have h3 := hr.sz.t0; simp only [List.length_nil] at h1; omega
    | cons x r =>
      have hx : MayV x := hy.votes.1 x (by simp)
      have hb' : b = true := hb.2 hy
      have hw : (if (plL l).Done then some true else if by_ < 0 then some true else if 3 * l.S.F + 2 * l.S.T + 1 ≤ by_ then some true else some (!b)) = some (decide (deafL l ⟨by_, x.View, x.Value⟩)) := by
        show (if l.Done = true then some true else _) = _
        by_cases hd : l.Done = true
        · rw [if_pos hd, decide_eq_true (nod x hd)]
        · rw [if_neg hd]
          by_cases h0 : by_ < 0
          · rw [if_pos h0, decide_eq_true (show deafL l ⟨by_, x.View, x.Value⟩ from .inr (.inr fun h => by have : 0 ≤ by_ := h.1; omega))]
          · rw [if_neg h0]
            by_cases h1 : 3 * l.S.F + 2 * l.S.T + 1 ≤ by_
            · rw [if_pos h1, decide_eq_true (show deafL l ⟨by_, x.View, x.Value⟩ from .inr (.inl (by unfold nOf; exact h1)))]
            · rw [if_neg h1, hb', decide_eq_false (p := deafL l ⟨by_, x.View, x.Value⟩)]
              · rfl
              · rintro (h | h | h)
                · exact hd h
                · exact h1 (by unfold nOf at h; exact h)
                · exact h ⟨show 0 ≤ by_ by omega, hx.2.1, hx.2.2.1, hx.2.2.2⟩
      rw [hw, bd_s]
      have eA : tR18Add (plL l).Commits ⟨by_, x.View, x.Value⟩ = some (⟨(addV l.Commits.L ⟨by_, x.View, x.Value⟩).1⟩, (addV l.Commits.L ⟨by_, x.View, x.Value⟩).2) := r18add_eq (L := l.Commits.L) (RightV_inc hr.com.2) (by omega)
      have hlen := addV_len (L := l.Commits.L) (a := ⟨by_, x.View, x.Value⟩)
      by_cases h : deafL l ⟨by_, x.View, x.Value⟩
      · rw [decide_eq_true h, if_pos rfl]
        simp only [if_pos h]
      · rw [decide_eq_false h, if_neg (by decide), ix_zero (by simp), ix_zero (by simp)]
        show bd (tR18Add (plL l).Commits ⟨by_, x.View, x.Value⟩) _ = _
        rw [eA, bd_s, bd_s]
        simp only [if_neg h]
        have := learned22_eq ⟨l.S, l.Accepts, ⟨(addV l.Commits.L ⟨by_, x.View, x.Value⟩).1⟩, l.Told, l.Done, l.Value⟩ (addV l.Commits.L ⟨by_, x.View, x.Value⟩).1 (2 * l.S.F + l.S.T + 1) (by omega)
        show bd (tR22Learned (plL ⟨l.S, l.Accepts, ⟨(addV l.Commits.L ⟨by_, x.View, x.Value⟩).1⟩, l.Told, l.Done, l.Value⟩) ⟨(addV l.Commits.L ⟨by_, x.View, x.Value⟩).1⟩ (2 * l.S.F + l.S.T + 1)) _ = _
        rw [this, bd_s]
  · rw [if_neg hy]
    have hb' : b = false := by cases b; rfl; exact absurd (hb.1 rfl) hy
    rw [hb']
    have hw : (if (plL l).Done then some true else if by_ < 0 then some true else if 3 * l.S.F + 2 * l.S.T + 1 ≤ by_ then some true else some (!false)) = some true := by
      split
      · rfl
      · split
        · rfl
        · split <;> rfl
    rw [hw, bd_s, if_pos rfl]
def FewL (l : LearnerLearner) : Prop := l.Accepts.L.length < 2 ^ 60 ∧ l.Commits.L.length < 2 ^ 60 ∧ l.Told.L.length < 2 ^ 60
theorem few_learned {l : LearnerLearner} (h : FewL l) (t : List ApiAccept) (n : Int) : FewL (learnedL l t n) := by
  unfold learnedL
  cases bestV t n <;> exact h
theorem few_accepted {l : LearnerLearner} (h1 : l.Accepts.L.length < 2 ^ 31) (h2 : l.Commits.L.length < 2 ^ 31) (h3 : l.Told.L.length < 2 ^ 31) (a : ApiAccept) : FewL (acceptedL l a) := by
  unfold acceptedL
  have hlen := addV_len (L := l.Accepts.L) (a := a)
  split
  · exact ⟨by omega, by omega, by omega⟩
  · exact few_learned (l := ⟨l.S, ⟨(addV l.Accepts.L a).1⟩, l.Commits, l.Told, l.Done, l.Value⟩) ⟨show (addV l.Accepts.L a).1.length < 2 ^ 60 by omega, show l.Commits.L.length < 2 ^ 60 by omega, show l.Told.L.length < 2 ^ 60 by omega⟩ _ _
theorem few_told {l : LearnerLearner} (h1 : l.Accepts.L.length < 2 ^ 31) (h2 : l.Commits.L.length < 2 ^ 31) (h3 : l.Told.L.length < 2 ^ 31) (by_ : Int) (v : List UInt8) : FewL (toldL l by_ v) := by
  unfold toldL
  have hlen := addV_len (L := l.Told.L) (a := ⟨by_, 0, v⟩)
  split
  · exact ⟨by omega, by omega, by omega⟩
  · exact few_learned (l := ⟨l.S, l.Accepts, l.Commits, ⟨(addV l.Told.L ⟨by_, 0, v⟩).1⟩, l.Done, l.Value⟩) ⟨show l.Accepts.L.length < 2 ^ 60 by omega, show l.Commits.L.length < 2 ^ 60 by omega, show (addV l.Told.L ⟨by_, 0, v⟩).1.length < 2 ^ 60 by omega⟩ _ _
theorem few_committed {l : LearnerLearner} (h1 : l.Accepts.L.length < 2 ^ 31) (h2 : l.Commits.L.length < 2 ^ 31) (h3 : l.Told.L.length < 2 ^ 31) (by_ : Int) (p : List ApiAccept) : FewL (committedL l by_ p) := by
  unfold committedL
  have h : FewL l := ⟨by omega, by omega, by omega⟩
  split
  · cases p with
    | nil => exact h
    | cons x r =>
      have hlen := addV_len (L := l.Commits.L) (a := ⟨by_, x.View, x.Value⟩)
      dsimp only
      split
      · exact h
      · exact few_learned (l := ⟨l.S, l.Accepts, ⟨(addV l.Commits.L ⟨by_, x.View, x.Value⟩).1⟩, l.Told, l.Done, l.Value⟩) ⟨show l.Accepts.L.length < 2 ^ 60 by omega, show (addV l.Commits.L ⟨by_, x.View, x.Value⟩).1.length < 2 ^ 60 by omega, show l.Told.L.length < 2 ^ 60 by omega⟩ _ _
  · exact h
theorem r22Same_rfl {l : LearnerLearner} (h : FewL l) : tR22Same (plL l) (plL l) = some true := by
  rw [r22Same_eq _ _ h.1 h.2.1 h.2.2, decide_eq_true rfl]
theorem learnerTurns_all (a : LearnerLearner) (w : L22Word) : tL22LearnerTurns a w = some true := by
  unfold tL22LearnerTurns
  obtain ⟨b1, e1, h1⟩ := fewL_eq a
  obtain ⟨b2, e2, h2⟩ := votesL_eq w.P
  rw [e1, bd_s, evL22Alive]
  cases b1 with
  | false => rfl
  | true =>
    rw [if_neg (by decide), e2, bd_s]
    cases b2 with
    | false => rfl
    | true =>
      rw [if_neg (by decide)]
      by_cases h61 : (6100 : Int) < (w.A.Value.length : Int)
      · rw [if_pos h61]; rfl
      · obtain ⟨_, g1, g2, g3⟩ := h1 rfl
        obtain ⟨g4, _⟩ := h2 rfl
        obtain ⟨r, e4, h4⟩ := r22Right_eq a (by omega) (by omega) (by omega)
        rw [if_neg h61, plainL_eq, bd_s, e4, bd_s, bd_s]
        cases r with
        | false => rfl
        | true =>
          have hr := h4.1 rfl
          rw [if_neg (by decide), bd_s, accepted_eq hr (by omega), bd_s, plainL_eq, bd_s, r22accepted_eq hr (by omega), bd_s, r22Same_rfl (few_accepted (by omega) (by omega) (by omega) _), bd_s,
            committed_eq hr (by omega) _ _ (by omega), bd_s, plainL_eq, bd_s, r22committed_eq hr (by omega) _ _ (by omega), bd_s, r22Same_rfl (few_committed (by omega) (by omega) (by omega) _ _), bd_s,
            told_eq hr (by omega), bd_s, plainL_eq, bd_s, r22told_eq hr (by omega), bd_s, r22Same_rfl (few_told (by omega) (by omega) (by omega) _ _), bd_s, bd_s, if_pos rfl, if_pos rfl, if_pos rfl, if_pos rfl, bd_s, r22Same_rfl ⟨by omega, by omega, by omega⟩, bd_s, bd_s]
end Dn.S
