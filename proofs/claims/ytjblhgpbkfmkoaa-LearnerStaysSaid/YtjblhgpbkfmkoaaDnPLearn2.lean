import Derived.Test.YtjblhgpbkfmkoaaDnPLearn
/-
  Learners: what they come to; LearnerTurns. Conditions: none.
-/
open Go Dn
set_option linter.unusedVariables false
set_option linter.unusedSimpArgs false
namespace Dn.S
theorem sizeFast_eq {s : SizeSize} (h : SizeOK s) : tSizeFast s = some (3 * s.F + s.T + 1) := h.cases (fun s => tSizeFast s = some (3 * s.F + s.T + 1)) (by decide +kernel)
theorem sizeWeak_eq {s : SizeSize} (h : SizeOK s) : tSizeWeak s = some (s.F + 1) := h.cases (fun s => tSizeWeak s = some (s.F + 1)) (by decide +kernel)
theorem r07Fast_eq {s : SizeSize} (h : SizeOK s) : tR07Fast (plS s) = some (3 * s.F + s.T + 1) := h.cases (fun s => tR07Fast (plS s) = some (3 * s.F + s.T + 1)) (by decide +kernel)
theorem r07Weak_eq {s : SizeSize} (h : SizeOK s) : tR07Weak (plS s) = some (s.F + 1) := h.cases (fun s => tR07Weak (plS s) = some (s.F + 1)) (by decide +kernel)
/-- with the best for a number, if there is one -/
def learnedL (l : LearnerLearner) (t : List ApiAccept) (need : Int) : LearnerLearner := match bestV t need with
  | some z => ⟨l.S, l.Accepts, l.Commits, l.Told, true, z.Value⟩
  | none => l
/-- is it not to be heard -/
def deafL (l : LearnerLearner) (a : ApiAccept) : Prop := l.Done = true ∨ nOf l.S ≤ a.By ∨ ¬ MayV a
instance (l : LearnerLearner) (a : ApiAccept) : Decidable (deafL l a) := by unfold deafL MayV; infer_instance
theorem deaf_eq (l : LearnerLearner) (hs : SizeOK l.S) (a : ApiAccept) :
    (if l.Done then some true else if a.By < 0 then some true else bd (tSizeN l.S) fun rA => if rA ≤ a.By then some true else bd (tTallyMay a) fun rA1 => some (!rA1)) = some (decide (deafL l a)) := by
  rw [sizeN_eq hs, bd_s, tallymay_eq, bd_s]
  by_cases hd : l.Done = true
  · rw [if_pos hd, decide_eq_true (show deafL l a from .inl hd)]
  · rw [if_neg hd]
    by_cases h0 : a.By < 0
    · rw [if_pos h0, decide_eq_true (show deafL l a from .inr (.inr fun h => by have := h.1; omega))]
    · rw [if_neg h0]
      by_cases h1 : 3 * l.S.F + 2 * l.S.T + 1 ≤ a.By
      · rw [if_pos h1, decide_eq_true (show deafL l a from .inr (.inl (by unfold nOf; exact h1)))]
      · rw [if_neg h1]
        have h1' : ¬ nOf l.S ≤ a.By := by unfold nOf; exact h1
        by_cases h2 : MayV a
        · rw [decide_eq_true h2, decide_eq_false (show ¬ deafL l a from fun h => h.elim hd (fun h => h.elim h1' (fun h => h h2)))]; rfl
        · rw [decide_eq_false h2, decide_eq_true (show deafL l a from .inr (.inr h2))]; rfl
theorem RightV_inc {L : List ApiAccept} (h : RightV L) : IncK vk L := h.2
theorem view_nonneg {L : List ApiAccept} (h : RightV L) (a : ApiAccept) : ∀ e ∈ (addV L a).1, 0 ≤ e.View := fun e he => ((addV_right (a := a) h).1 e he).2.1
theorem best_add {L : List ApiAccept} (h : RightV L) (a : ApiAccept) (need : Int) (hl : L.length < 2 ^ 31) : tTallyBest ⟨(addV L a).1⟩ need = some (resV (bestV (addV L a).1 need)) :=
  tallybest_eq need (view_nonneg h a) (by have := addV_len (L := L) (a := a); omega)
theorem addV_no {L : List ApiAccept} {a : ApiAccept} (h : ¬ MayV a) : addV L a = (L, false) := by
  unfold addV
  rw [if_neg (fun h' => h h'.1)]
theorem learned22_eq (l : LearnerLearner) (t : List ApiAccept) (need : Int) (hl : t.length < 2 ^ 32) : tR22Learned (plL l) ⟨t⟩ need = some (plL (learnedL l t need)) := by
  unfold tR22Learned learnedL
  rw [r18best_eq t need hl, bd_s]
  cases bestV t need with
  | none => rfl
  | some z => rfl
/-! ### accepts -/
def acceptedL (l : LearnerLearner) (a : ApiAccept) : LearnerLearner := if deafL l a then l else learnedL ⟨l.S, ⟨(addV l.Accepts.L a).1⟩, l.Commits, l.Told, l.Done, l.Value⟩ (addV l.Accepts.L a).1 (3 * l.S.F + l.S.T + 1)
theorem accepted_eq {l : LearnerLearner} (hr : RightL l) (hl : l.Accepts.L.length < 2 ^ 31) (a : ApiAccept) : tLearnerAccepted l a = some (acceptedL l a) := by
  unfold tLearnerAccepted acceptedL tLearnerLearnerHears2
  rw [sizeFast_eq hr.sz, bd_s, deaf_eq l hr.sz, bd_s]
  by_cases h : deafL l a
  · rw [decide_eq_true h, if_pos rfl, bd_s, if_pos h]; rfl
  · have e1 : tTallyAdd l.Accepts a = some (⟨(addV l.Accepts.L a).1⟩, (addV l.Accepts.L a).2) := tallyadd_eq (L := l.Accepts.L) (RightV_inc hr.acc.2) (by omega)
    rw [decide_eq_false h, if_neg (by decide), e1, bd_s, best_add hr.acc.2 a _ hl, bd_s, bd_s, if_neg h]
    unfold learnedL
    cases bestV (addV l.Accepts.L a).1 (3 * l.S.F + l.S.T + 1) <;> rfl
theorem r22accepted_eq {l : LearnerLearner} (hr : RightL l) (hl : l.Accepts.L.length < 2 ^ 31) (a : ApiAccept) : tR22Accepted (plL l) a = some (plL (acceptedL l a)) := by
  unfold tR22Accepted acceptedL
  have eN : tR07N (plL l).S = some (3 * l.S.F + 2 * l.S.T + 1) := r07N_eq hr.sz
  have eF : tR07Fast (plL l).S = some (3 * l.S.F + l.S.T + 1) := r07Fast_eq hr.sz
  have eA : tR18Add (plL l).Accepts a = some (⟨(addV l.Accepts.L a).1⟩, (addV l.Accepts.L a).2) := r18add_eq (L := l.Accepts.L) (RightV_inc hr.acc.2) (by omega)
  rw [eN, bd_s, eA, eF]
  show bd (if l.Done then some true else some (decide (3 * l.S.F + 2 * l.S.T + 1 ≤ a.By))) _ = _
  have hlen := addV_len (L := l.Accepts.L) (a := a)
  cases hd : l.Done with
  | true => rw [if_pos rfl, bd_s, if_pos rfl, if_pos (.inl hd)]
  | false =>
    rw [if_neg (by decide), bd_s]
    by_cases h1 : 3 * l.S.F + 2 * l.S.T + 1 ≤ a.By
    · rw [decide_eq_true h1, if_pos rfl, if_pos (.inr (.inl h1))]
    · rw [decide_eq_false h1, if_neg (by decide), bd_s, r18may_eq, bd_s]
      by_cases h2 : MayV a
      · have hdf : ¬ deafL l a := by
          rintro (h | h | h)
          · rw [hd] at h; cases h
          · exact h1 h
          · exact h h2
        rw [decide_eq_true h2, if_neg (by decide), bd_s, if_neg hdf]
        have := learned22_eq ⟨l.S, ⟨(addV l.Accepts.L a).1⟩, l.Commits, l.Told, l.Done, l.Value⟩ (addV l.Accepts.L a).1 (3 * l.S.F + l.S.T + 1) (by omega)
        show bd (tR22Learned (plL ⟨l.S, ⟨(addV l.Accepts.L a).1⟩, l.Commits, l.Told, l.Done, l.Value⟩) ⟨(addV l.Accepts.L a).1⟩ (3 * l.S.F + l.S.T + 1)) _ = _
        rw [this, bd_s, hd]
      · rw [decide_eq_false h2, if_pos (by decide), if_pos (.inr (.inr h2)), addV_no h2]; rfl
/-! ### commits -/
open Classical in
noncomputable def committedL (l : LearnerLearner) (by_ : Int) (p : List ApiAccept) : LearnerLearner := if RightP l.S p then (match p with
  | [] => l
  | x :: _ => if deafL l ⟨by_, x.View, x.Value⟩ then l else learnedL ⟨l.S, l.Accepts, ⟨(addV l.Commits.L ⟨by_, x.View, x.Value⟩).1⟩, l.Told, l.Done, l.Value⟩ (addV l.Commits.L ⟨by_, x.View, x.Value⟩).1 (2 * l.S.F + l.S.T + 1)) else l
/-! ### what was learned -/
def toldL (l : LearnerLearner) (by_ : Int) (value : List UInt8) : LearnerLearner := if deafL l ⟨by_, 0, value⟩ then l else learnedL ⟨l.S, l.Accepts, l.Commits, ⟨(addV l.Told.L ⟨by_, 0, value⟩).1⟩, l.Done, l.Value⟩ (addV l.Told.L ⟨by_, 0, value⟩).1 (l.S.F + 1)
theorem told_eq {l : LearnerLearner} (hr : RightL l) (hl : l.Told.L.length < 2 ^ 31) (by_ : Int) (value : List UInt8) : tLearnerTold l by_ value = some (toldL l by_ value) := by
  unfold tLearnerTold toldL tLearnerLearnerHears4
  rw [sizeWeak_eq hr.sz, bd_s, deaf_eq l hr.sz, bd_s]
  by_cases h : deafL l ⟨by_, 0, value⟩
  · rw [decide_eq_true h, if_pos rfl, bd_s, if_pos h]; rfl
  · have e1 : tTallyAdd l.Told ⟨by_, 0, value⟩ = some (⟨(addV l.Told.L ⟨by_, 0, value⟩).1⟩, (addV l.Told.L ⟨by_, 0, value⟩).2) := tallyadd_eq (L := l.Told.L) (RightV_inc hr.told.2) (by omega)
    rw [decide_eq_false h, if_neg (by decide), e1, bd_s, best_add hr.told.2 _ _ hl, bd_s, bd_s, if_neg h]
    unfold learnedL
    cases bestV (addV l.Told.L ⟨by_, 0, value⟩).1 (l.S.F + 1) <;> rfl
theorem r22told_eq {l : LearnerLearner} (hr : RightL l) (hl : l.Told.L.length < 2 ^ 31) (by_ : Int) (value : List UInt8) : tR22Told (plL l) by_ value = some (plL (toldL l by_ value)) := by
  unfold tR22Told toldL
  have eN : tR07N (plL l).S = some (3 * l.S.F + 2 * l.S.T + 1) := r07N_eq hr.sz
  have eF : tR07Weak (plL l).S = some (l.S.F + 1) := r07Weak_eq hr.sz
  have eA : tR18Add (plL l).Told ⟨by_, 0, value⟩ = some (⟨(addV l.Told.L ⟨by_, 0, value⟩).1⟩, (addV l.Told.L ⟨by_, 0, value⟩).2) := r18add_eq (L := l.Told.L) (RightV_inc hr.told.2) (by omega)
  rw [eN, bd_s, eA, eF, bd_s, bd_s]
  have hlen := addV_len (L := l.Told.L) (a := ⟨by_, 0, value⟩)
  have hw : (if (plL l).Done then some true else if by_ < 0 then some true else if 3 * l.S.F + 2 * l.S.T + 1 ≤ by_ then some true else some (decide ((6000 : Int) < (value.length : Int)))) = some (decide (deafL l ⟨by_, 0, value⟩)) := by
    show (if l.Done = true then some true else _) = _
    by_cases hd : l.Done = true
    · rw [if_pos hd, decide_eq_true (show deafL l ⟨by_, 0, value⟩ from .inl hd)]
    · rw [if_neg hd]
      by_cases h0 : by_ < 0
      · rw [if_pos h0, decide_eq_true (show deafL l ⟨by_, 0, value⟩ from .inr (.inr fun h => by have : 0 ≤ by_ := h.1; omega))]
      · rw [if_neg h0]
        by_cases h1 : 3 * l.S.F + 2 * l.S.T + 1 ≤ by_
        · rw [if_pos h1, decide_eq_true (show deafL l ⟨by_, 0, value⟩ from .inr (.inl (by unfold nOf; exact h1)))]
        · rw [if_neg h1]
          by_cases h2 : (6000 : Int) < (value.length : Int)
          · rw [decide_eq_true h2, decide_eq_true (show deafL l ⟨by_, 0, value⟩ from .inr (.inr fun h => by have : value.length ≤ 6000 := h.2.2.2; omega))]
          · rw [decide_eq_false h2, decide_eq_false (p := deafL l ⟨by_, 0, value⟩)]
            rintro (h | h | h)
            · exact hd h
            · exact h1 (by unfold nOf at h; exact h)
            · exact h ⟨show 0 ≤ by_ by omega, show (0 : Int) ≤ 0 by omega, show (0 : Int) ≤ 100000 by omega, show value.length ≤ 6000 by omega⟩
  rw [hw, bd_s]
  by_cases h : deafL l ⟨by_, 0, value⟩
  · rw [decide_eq_true h, if_pos rfl, if_pos h]
  · rw [decide_eq_false h, if_neg (by decide), if_neg h]
    have := learned22_eq ⟨l.S, l.Accepts, l.Commits, ⟨(addV l.Told.L ⟨by_, 0, value⟩).1⟩, l.Done, l.Value⟩ (addV l.Told.L ⟨by_, 0, value⟩).1 (l.S.F + 1) (by omega)
    show bd (tR22Learned (plL ⟨l.S, l.Accepts, l.Commits, ⟨(addV l.Told.L ⟨by_, 0, value⟩).1⟩, l.Done, l.Value⟩) ⟨(addV l.Told.L ⟨by_, 0, value⟩).1⟩ (l.S.F + 1)) _ = _
    rw [this, bd_s]
end Dn.S
