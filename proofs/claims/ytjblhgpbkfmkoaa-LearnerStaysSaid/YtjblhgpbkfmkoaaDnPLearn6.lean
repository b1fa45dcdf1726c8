import Derived.Test.YtjblhgpbkfmkoaaDnPLearn5
/-
  Learners: whatever is heard; LearnerStays. Conditions: none.
-/
open Go Dn
set_option linter.unusedVariables false
set_option linter.unusedSimpArgs false
set_option linter.unusedSectionVars false
namespace Dn.S
noncomputable def heardL (l : LearnerLearner) (w : L22Word) : LearnerLearner :=
  if w.Kind = 0 then acceptedL l w.A else if w.Kind = 1 then committedL l w.By w.P else if w.Kind = 2 then toldL l w.By w.A.Value else l
theorem heard_eq {l : LearnerLearner} (h : RightL l) (w : L22Word) (hp : w.P.length < 2 ^ 32) : tL22Heard l w = some (heardL l w) := by
  unfold tL22Heard heardL
  have h1 := rightV_small h.sz h.acc
  have h2 := rightV_small h.sz h.com
  have h3 := rightV_small h.sz h.told
  by_cases c0 : w.Kind = 0
  · rw [if_pos c0, if_pos c0, accepted_eq h h1, bd_s]
  rw [if_neg c0, if_neg c0]
  by_cases c1 : w.Kind = 1
  · rw [if_pos c1, if_pos c1, committed_eq h h2 _ _ hp, bd_s]
  rw [if_neg c1, if_neg c1]
  by_cases c2 : w.Kind = 2
  · rw [if_pos c2, if_pos c2, told_eq h h3, bd_s]
  rw [if_neg c2, if_neg c2]
theorem heardL_right {l : LearnerLearner} (h : RightL l) (w : L22Word) : RightL (heardL l w) := by
  unfold heardL
  split
  · exact acceptedL_right h _
  · split
    · exact committedL_right h _ _
    · split
      · exact toldL_right h _ _
      · exact h
theorem heardL_done {l : LearnerLearner} (h : l.Done = true) (w : L22Word) : heardL l w = l := by
  unfold heardL acceptedL toldL committedL
  split
  · rw [if_pos (.inl h)]
  · split
    · split
      · split
        · rfl
        · rw [if_pos (.inl h)]
      · rfl
    · split
      · rw [if_pos (.inl h)]
      · rfl
/-- what a learner heard stands among some words -/
structure FromW (s : SizeSize) (pre : List L22Word) (l : LearnerLearner) : Prop where
  t : ∀ e ∈ l.Told.L, ∃ w ∈ pre, w.Kind = 2 ∧ w.By = e.By ∧ w.A.Value = e.Value
  a : ∀ e ∈ l.Accepts.L, ∃ w ∈ pre, w.Kind = 0 ∧ w.A = e
  c : ∀ e ∈ l.Commits.L, ∃ w ∈ pre, w.Kind = 1 ∧ w.By = e.By ∧ RightP s w.P ∧ ∃ y ∈ w.P.head?, y.View = e.View ∧ y.Value = e.Value
theorem FromW.more {s : SizeSize} {pre : List L22Word} {l : LearnerLearner} (h : FromW s pre l) (w : L22Word) : FromW s (pre ++ [w]) l :=
  ⟨fun e he => by obtain ⟨w', h1, h2⟩ := h.t e he; exact ⟨w', by simp [h1], h2⟩,
   fun e he => by obtain ⟨w', h1, h2⟩ := h.a e he; exact ⟨w', by simp [h1], h2⟩,
   fun e he => by obtain ⟨w', h1, h2⟩ := h.c e he; exact ⟨w', by simp [h1], h2⟩⟩
def SaidW (s : SizeSize) (pre : List L22Word) (x : List UInt8) : Prop := enoughT s x pre ∨ ∃ w ∈ pre, enoughV s x pre (viewW w)
theorem learnedL_none {l : LearnerLearner} {t : List ApiAccept} {n : Int} (h : bestV t n = none) : learnedL l t n = l := by unfold learnedL; rw [h]
theorem learnedL_some {l : LearnerLearner} {t : List ApiAccept} {n : Int} {z : ApiAccept} (h : bestV t n = some z) : learnedL l t n = ⟨l.S, l.Accepts, l.Commits, l.Told, true, z.Value⟩ := by unfold learnedL; rw [h]
section
variable {s : SizeSize} {pre : List L22Word} {l : LearnerLearner} (hS : l.S = s) (hR : RightL l) (hF : FromW s pre l) (hD : l.Done = false) (w : L22Word)
include hS hR hF hD
theorem from_told (hk : w.Kind = 2) : ((toldL l w.By w.A.Value).Done = false → FromW s (pre ++ [w]) (toldL l w.By w.A.Value)) ∧ ((toldL l w.By w.A.Value).Done = true → SaidW s (pre ++ [w]) (toldL l w.By w.A.Value).Value) := by
  subst hS
  unfold toldL
  by_cases hd : deafL l ⟨w.By, 0, w.A.Value⟩
  · rw [if_pos hd]
    exact ⟨fun _ => hF.more w, fun h => (by rw [hD] at h; cases h)⟩
  rw [if_neg hd]
  obtain ⟨_, h1, h2⟩ := may_of_not_deaf hd
  have hw := withV_add (a := ⟨w.By, 0, w.A.Value⟩) hR.told h1 (Int.le_refl 0)
  have hmem : ∀ e ∈ (addV l.Told.L ⟨w.By, 0, w.A.Value⟩).1, ∃ w' ∈ pre ++ [w], w'.Kind = 2 ∧ w'.By = e.By ∧ w'.A.Value = e.Value := by
    intro e he
    rcases addV_mem hR.told.2.2 he with h | ⟨rfl, _⟩
    · obtain ⟨w', h3, h4⟩ := hF.t e h
      exact ⟨w', by simp [h3], h4⟩
    · exact ⟨w, by simp, hk, rfl, rfl⟩
  cases hb : bestV (addV l.Told.L ⟨w.By, 0, w.A.Value⟩).1 (l.S.F + 1) with
  | none =>
    rw [learnedL_none hb]
    exact ⟨fun _ => ⟨hmem, (hF.more w).a, (hF.more w).c⟩, fun h => by rw [hD] at h; cases h⟩
  | some z =>
    rw [learnedL_some hb]
    refine ⟨fun h => (by cases h), fun _ => .inl ?_⟩
    have hz := bestV_mem hb
    have hn := n26 l.S hR.sz
    have := votes_le (M := markB (sayT l.S z.Value) (·.By) (pre ++ [w])) hw.2 (v := z.View) (x := z.Value) (by
      intro e he hv hx
      obtain ⟨w', h3, h4, h5, h6⟩ := hmem e he
      have h7 := (hw.2.1 e he).1
      have h8 := (hw.1 e he).1
      rw [← h5]
      refine markB_mem h3 (decide_eq_true ⟨h4, by omega, by omega, by rw [h6, hx]⟩) (by omega))
    unfold enoughT
    dsimp only
    omega
theorem from_acc (hk : w.Kind = 0) : ((acceptedL l w.A).Done = false → FromW s (pre ++ [w]) (acceptedL l w.A)) ∧ ((acceptedL l w.A).Done = true → SaidW s (pre ++ [w]) (acceptedL l w.A).Value) := by
  subst hS
  unfold acceptedL
  by_cases hd : deafL l w.A
  · rw [if_pos hd]
    exact ⟨fun _ => hF.more w, fun h => (by rw [hD] at h; cases h)⟩
  rw [if_neg hd]
  obtain ⟨_, h1, h2⟩ := may_of_not_deaf hd
  have hw := withV_add (a := w.A) hR.acc h1 h2.2.2.1
  have hmem : ∀ e ∈ (addV l.Accepts.L w.A).1, ∃ w' ∈ pre ++ [w], w'.Kind = 0 ∧ w'.A = e := by
    intro e he
    rcases addV_mem hR.acc.2.2 he with h | ⟨rfl, _⟩
    · obtain ⟨w', h3, h4⟩ := hF.a e h
      exact ⟨w', by simp [h3], h4⟩
    · exact ⟨w, by simp, hk, rfl⟩
  cases hb : bestV (addV l.Accepts.L w.A).1 (3 * l.S.F + l.S.T + 1) with
  | none =>
    rw [learnedL_none hb]
    exact ⟨fun _ => ⟨(hF.more w).t, hmem, (hF.more w).c⟩, fun h => by rw [hD] at h; cases h⟩
  | some z =>
    rw [learnedL_some hb]
    have hz := bestV_mem hb
    obtain ⟨wz, hz1, hz2, hz3⟩ := hmem z hz.1
    refine ⟨fun h => (by cases h), fun _ => .inr ⟨wz, hz1, .inl ?_⟩⟩
    have hvw : viewW wz = z.View := by unfold viewW; rw [if_neg (by omega), hz3]
    have hn := n26 l.S hR.sz
    have := votes_le (M := markB (sayA l.S z.Value z.View) (·.A.By) (pre ++ [w])) hw.2 (v := z.View) (x := z.Value) (by
      intro e he hv hx
      obtain ⟨w', h3, h4, h5⟩ := hmem e he
      have h7 := (hw.2.1 e he).1
      have h8 := (hw.1 e he).1
      subst h5
      exact markB_mem (key := (·.A.By)) h3 (decide_eq_true ⟨h4, by omega, by omega, hv, hx⟩) (by omega))
    rw [hvw]
    dsimp only
    omega
open Classical in
theorem from_com (hk : w.Kind = 1) : ((committedL l w.By w.P).Done = false → FromW s (pre ++ [w]) (committedL l w.By w.P)) ∧ ((committedL l w.By w.P).Done = true → SaidW s (pre ++ [w]) (committedL l w.By w.P).Value) := by
  subst hS
  have no : (l.Done = false → FromW l.S (pre ++ [w]) l) ∧ (l.Done = true → SaidW l.S (pre ++ [w]) l.Value) := ⟨fun _ => hF.more w, fun h => (by rw [hD] at h; cases h)⟩
  unfold committedL
  by_cases hp : RightP l.S w.P
  rotate_left
  · rw [if_neg hp]; exact no
  rw [if_pos hp]
  cases hpp : w.P with
  | nil => exact no
  | cons y r =>
  dsimp only
  by_cases hd : deafL l ⟨w.By, y.View, y.Value⟩
  · rw [if_pos hd]; exact no
  rw [if_neg hd]
  obtain ⟨_, h1, h2⟩ := may_of_not_deaf hd
  have hw := withV_add (a := ⟨w.By, y.View, y.Value⟩) hR.com h1 h2.2.2.1
  have hmem : ∀ e ∈ (addV l.Commits.L ⟨w.By, y.View, y.Value⟩).1, ∃ w' ∈ pre ++ [w], w'.Kind = 1 ∧ w'.By = e.By ∧ RightP l.S w'.P ∧ ∃ y ∈ w'.P.head?, y.View = e.View ∧ y.Value = e.Value := by
    intro e he
    rcases addV_mem hR.com.2.2 he with h | ⟨rfl, _⟩
    · obtain ⟨w', h3, h4⟩ := hF.c e h
      exact ⟨w', by simp [h3], h4⟩
    · exact ⟨w, by simp, hk, rfl, hp, y, by rw [hpp]; rfl, rfl, rfl⟩
  cases hb : bestV (addV l.Commits.L ⟨w.By, y.View, y.Value⟩).1 (2 * l.S.F + l.S.T + 1) with
  | none =>
    rw [learnedL_none hb]
    exact ⟨fun _ => ⟨(hF.more w).t, (hF.more w).a, hmem⟩, fun h => by rw [hD] at h; cases h⟩
  | some z =>
    rw [learnedL_some hb]
    have hz := bestV_mem hb
    obtain ⟨wz, hz1, hz2, hz3, hz4, yz, hz5, hz6, hz7⟩ := hmem z hz.1
    refine ⟨fun h => (by cases h), fun _ => .inr ⟨wz, hz1, .inr ?_⟩⟩
    have hvw : viewW wz = z.View := by
      unfold viewW
      rw [if_pos hz2]
      cases hq : wz.P with
      | nil => rw [hq] at hz5; simp at hz5
      | cons q qs => rw [hq] at hz5; simp at hz5; subst hz5; exact hz6
    have hn := n26 l.S hR.sz
    have := votes_le (M := markB (sayC l.S z.Value z.View) (·.By) (pre ++ [w])) hw.2 (v := z.View) (x := z.Value) (by
      intro e he hv hx
      obtain ⟨w', h3, h4, h5, h6, y', h9, h10, h11⟩ := hmem e he
      have h7 := (hw.2.1 e he).1
      have h8 := (hw.1 e he).1
      rw [← h5]
      exact markB_mem (key := (·.By)) h3 (decide_eq_true ⟨h4, by omega, by omega, h6, y', h9, by rw [h10, hv], by rw [h11, hx]⟩) (by omega))
    rw [hvw]
    dsimp only
    omega
theorem from_heard : ((heardL l w).Done = false → FromW s (pre ++ [w]) (heardL l w)) ∧ ((heardL l w).Done = true → SaidW s (pre ++ [w]) (heardL l w).Value) := by
  unfold heardL
  by_cases c0 : w.Kind = 0
  · rw [if_pos c0]; exact from_acc hS hR hF hD w c0
  rw [if_neg c0]
  by_cases c1 : w.Kind = 1
  · rw [if_pos c1]; exact from_com hS hR hF hD w c1
  rw [if_neg c1]
  by_cases c2 : w.Kind = 2
  · rw [if_pos c2]; exact from_told hS hR hF hD w c2
  rw [if_neg c2]
  exact ⟨fun _ => hF.more w, fun h => (by rw [hD] at h; cases h)⟩
end
theorem learnedL_S (l : LearnerLearner) (t : List ApiAccept) (n : Int) : (learnedL l t n).S = l.S := by unfold learnedL; split <;> rfl
theorem heardL_S (l : LearnerLearner) (w : L22Word) : (heardL l w).S = l.S := by
  unfold heardL acceptedL toldL committedL
  split
  · split
    · rfl
    · rw [learnedL_S]
  · split
    · split
      · split
        · rfl
        · split
          · rfl
          · rw [learnedL_S]
      · rfl
    · split
      · split
        · rfl
        · rw [learnedL_S]
      · rfl
abbrev St1 := Int × Int × (List ApiAccept) × (List ApiAccept) × (List ApiAccept) × Bool × (List UInt8) × Int
def tup1 (l : LearnerLearner) (i : Int) : St1 := (l.S.F, l.S.T, l.Accepts.L, l.Commits.L, l.Told.L, l.Done, l.Value, i)
theorem learnerStays_all (s : SizeSize) (L : List L22Word) : tL22LearnerStays s L = some true := by
  unfold tL22LearnerStays
  rw [learnNew_eq, bd_s, evL22Alive]
  by_cases hs : SizeOK s
  rotate_left
  · unfold newL
    rw [if_neg hs]
    rfl
  have en : newL s = (⟨s, ⟨[]⟩, ⟨[]⟩, ⟨[]⟩, false, []⟩, 0) := by unfold newL; rw [if_pos hs]
  rw [en]
  dsimp only
  rw [decide_eq_true (rfl : (0 : Int) = 0), if_neg (by decide)]
  by_cases c1 : (60 : Int) < (L.length : Int)
  · rw [decide_eq_true c1]; rfl
  rw [decide_eq_false c1, bd_s, if_neg (by decide)]
  have hrn : RightL ⟨s, ⟨[]⟩, ⟨[]⟩, ⟨[]⟩, false, []⟩ := by
    have hw : ∀ last, WithV s [] last := fun last => ⟨by simp, ⟨by simp, by simp [IncK]⟩⟩
    exact ⟨hs, by simp, fun _ => rfl, hw _, hw _, hw _⟩
  have hloop : Gives (Loop (tL22LearnerStaysL1 s L) (tup1 ⟨s, ⟨[]⟩, ⟨[]⟩, ⟨[]⟩, false, []⟩ 0)) fun r => r = .inl () ∨ r = .inr true := by
    refine Gives.loop (fun st => ∃ l, ∃ i : Nat, i ≤ L.length ∧ st = tup1 l (i : Int) ∧ l.S = s ∧ RightL l ∧ (l.Done = false → FromW s (L.take i) l) ∧ ∀ w ∈ L.take i, w.P.length ≤ 40) (fun st => (L.length - st.2.2.2.2.2.2.2).toNat)
      ⟨_, 0, Nat.zero_le _, rfl, rfl, hrn, fun _ => ⟨by simp, by simp, by simp⟩, by simp⟩ ?_
    rintro st ⟨l, i, hi, rfl, hS, hR, hF, hP⟩
    unfold tL22LearnerStaysL1 tup1
    dsimp only
    by_cases hin : i < L.length
    rotate_left
    · rw [if_neg (by omega)]
      exact .mk (.inl rfl)
    rw [if_pos (by omega), ix_nat hin]
    obtain ⟨b, eb, hb⟩ := votesL_eq L[i].P
    rw [eb, bd_s]
    cases b with
    | false => rw [evL22Alive]; exact .mk (.inr rfl)
    | true =>
    have h40 := (hb rfl).1
    rw [if_neg (by decide)]
    by_cases c2 : (6100 : Int) < (L[i].A.Value.length : Int)
    · rw [decide_eq_true c2, evL22Alive]; exact .mk (.inr rfl)
    rw [decide_eq_false c2, bd_s, if_neg (by decide)]
    have eh : tL22Heard ⟨⟨l.S.F, l.S.T⟩, ⟨l.Accepts.L⟩, ⟨l.Commits.L⟩, ⟨l.Told.L⟩, l.Done, l.Value⟩ L[i] = some (heardL l L[i]) := heard_eq hR _ (by omega)
    have hRm := heardL_right hR L[i]
    have hSm : (heardL l L[i]).S = s := by rw [heardL_S, hS]
    have m1 := rightV_small hRm.sz hRm.acc
    have m2 := rightV_small hRm.sz hRm.com
    have m3 := rightV_small hRm.sz hRm.told
    rw [eh, bd_s, plainL_eq, bd_s]
    obtain ⟨q, eq, hq⟩ := r22Right_eq (heardL l L[i]) (by omega) (by omega) (by omega)
    have hq := hq.2 hRm
    subst hq
    rw [eq, bd_s]
    have e3 : (if l.Done = true then bd (tLearnerSame ⟨⟨l.S.F, l.S.T⟩, ⟨l.Accepts.L⟩, ⟨l.Commits.L⟩, ⟨l.Told.L⟩, l.Done, l.Value⟩ (heardL l L[i])) fun rA5 => if (!rA5) = true then some true else some (!true) else some (!true)) = some false := by
      by_cases hd : l.Done = true
      · rw [if_pos hd, heardL_done hd]
        have l1 := rightV_small hR.sz hR.acc
        have l2 := rightV_small hR.sz hR.com
        have l3 := rightV_small hR.sz hR.told
        have : tLearnerSame ⟨⟨l.S.F, l.S.T⟩, ⟨l.Accepts.L⟩, ⟨l.Commits.L⟩, ⟨l.Told.L⟩, l.Done, l.Value⟩ l = some (decide (l = l)) := learnSame_eq l l (by omega) (by omega) (by omega)
        rw [this, decide_eq_true rfl]; rfl
      · rw [if_neg hd]; rfl
    rw [e3, bd_s, if_neg (by decide), wrap64 (x := (i : Int) + 1) (by omega) (by omega)]
    have htk : L.take (i + 1) = L.take i ++ [L[i]] := by rw [List.take_add_one, List.getElem?_eq_getElem hin]; rfl
    have hP' : ∀ w ∈ L.take (i + 1), w.P.length ≤ 40 := by
      intro w hw
      rw [htk] at hw
      rcases List.mem_append.1 hw with h | h
      · exact hP w h
      · simp at h; subst h; exact h40
    have e4 : (if (!l.Done) = true then if (heardL l L[i]).Done = true then if (0 : Int) ≤ 0 ∧ (0 : Int) ≤ (i : Int) + 1 ∧ (i : Int) + 1 ≤ (L.length : Int) then bd (tL22Said s (List.drop (Int.toNat 0) (List.take (Int.toNat ((i : Int) + 1)) L)) (heardL l L[i]).Value) fun rA10 => some (!rA10) else none else some false else some false) = some false := by
      cases hd : l.Done with
      | true => rfl
      | false =>
        rw [if_pos (by decide)]
        cases hm : (heardL l L[i]).Done with
        | false => rfl
        | true =>
          rw [if_pos rfl, if_pos ⟨by omega, by omega, by omega⟩, show Int.toNat 0 = 0 from rfl, List.drop_zero, show Int.toNat ((i : Int) + 1) = i + 1 by omega]
          have h1 := (from_heard hS hR (hF hd) hd L[i]).2 hm
          rw [← htk] at h1
          rw [said_true s hs _ (L.take (i + 1)) (by rw [List.length_take]; omega) (fun w hw => by have := hP' w hw; omega) h1]
          rfl
    rw [e4, bd_s, if_neg (by decide)]
    refine .mk ⟨⟨heardL l L[i], i + 1, by omega, by rw [show ((i + 1 : Nat) : Int) = (i : Int) + 1 by omega], hSm, hRm, fun hm => ?_, hP'⟩, by dsimp only; omega⟩
    cases hd : l.Done with
    | true => rw [heardL_done hd, hd] at hm; cases hm
    | false => rw [htk]; exact (from_heard hS hR (hF hd) hd L[i]).1 hm
  obtain ⟨r, er, hr⟩ := hloop
  have er' : Loop (tL22LearnerStaysL1 s L) (s.F, s.T, [], [], [], false, [], 0) = some r := er
  rw [er', bd_s]
  rcases hr with rfl | rfl
  · rfl
  · rfl
end Dn.S
