import Derived.Test.YtjblhgpbkfmkoaaDnPLearn3
/-
  Learners: what enough say alike is learned; LearnerLearns. Conditions: none.
-/
open Go Dn
set_option linter.unusedVariables false
set_option linter.unusedSimpArgs false
set_option linter.unusedSectionVars false
namespace Dn.S
theorem addV_mem {L : List ApiAccept} {a x : ApiAccept} (hs : IncK vk L) (h : x ∈ (addV L a).1) : x ∈ L ∨ (x = a ∧ MayV a) := by
  unfold addV at h
  split at h
  · rename_i hc
    rcases (putV_mem hs).1 h with h | h
    · exact .inr ⟨h, hc.1⟩
    · exact .inl h.1
  · exact .inl h
theorem withV_add {s : SizeSize} {L : List ApiAccept} {last : Int} {a : ApiAccept} (h : WithV s L last) (hb : a.By < nOf s) (hv : a.View ≤ last) : WithV s (addV L a).1 last := by
  refine ⟨fun e he => ?_, addV_right h.2⟩
  rcases addV_mem h.2.2 he with h1 | ⟨rfl, _⟩
  · exact h.1 e h1
  · exact ⟨hb, hv⟩
theorem bestV_mem {L : List ApiAccept} {need : Int} {z : ApiAccept} (h : bestV L need = some z) : z ∈ L ∧ 1 ≤ need ∧ need ≤ (cntV L z.View z.Value : Int) := by
  have := bestV_spec L need
  rw [h] at this
  refine ⟨this.1, ?_⟩
  have h2 := this.2.1
  unfold goodV at h2
  simpa using h2
theorem learnedL_right {l : LearnerLearner} (h : RightL l) (t : List ApiAccept) (ht : ∀ e ∈ t, MayV e) (n : Int) : RightL (learnedL l t n) := by
  unfold learnedL
  cases hb : bestV t n with
  | none => exact h
  | some z => exact ⟨h.sz, (ht z (bestV_mem hb).1).2.2.2, fun h => (by cases h), h.acc, h.com, h.told⟩
theorem may_of_not_deaf {l : LearnerLearner} {a : ApiAccept} (h : ¬ deafL l a) : l.Done = false ∧ a.By < nOf l.S ∧ MayV a := by
  refine ⟨?_, ?_, ?_⟩
  · cases hd : l.Done with
    | false => rfl
    | true => exact absurd (.inl hd) h
  · exact Int.lt_of_not_ge fun h' => h (.inr (.inl h'))
  · exact Decidable.byContradiction fun h' => h (.inr (.inr h'))
theorem acceptedL_right {l : LearnerLearner} (h : RightL l) (a : ApiAccept) : RightL (acceptedL l a) := by
  unfold acceptedL
  by_cases hd : deafL l a
  · rw [if_pos hd]; exact h
  · rw [if_neg hd]
    obtain ⟨h0, h1, h2⟩ := may_of_not_deaf hd
    have hw := withV_add h.acc h1 h2.2.2.1
    exact learnedL_right (l := ⟨l.S, ⟨(addV l.Accepts.L a).1⟩, l.Commits, l.Told, l.Done, l.Value⟩) ⟨h.sz, h.len, h.val, hw, h.com, h.told⟩ _ hw.2.1 _
theorem toldL_right {l : LearnerLearner} (h : RightL l) (by_ : Int) (v : List UInt8) : RightL (toldL l by_ v) := by
  unfold toldL
  by_cases hd : deafL l ⟨by_, 0, v⟩
  · rw [if_pos hd]; exact h
  · rw [if_neg hd]
    obtain ⟨h0, h1, h2⟩ := may_of_not_deaf hd
    have hw := withV_add (a := ⟨by_, 0, v⟩) h.told h1 (Int.le_refl 0)
    exact learnedL_right (l := ⟨l.S, l.Accepts, l.Commits, ⟨(addV l.Told.L ⟨by_, 0, v⟩).1⟩, l.Done, l.Value⟩) ⟨h.sz, h.len, h.val, h.acc, h.com, hw⟩ _ hw.2.1 _
theorem committedL_right {l : LearnerLearner} (h : RightL l) (by_ : Int) (p : List ApiAccept) : RightL (committedL l by_ p) := by
  unfold committedL
  split
  · cases p with
    | nil => exact h
    | cons x r =>
      dsimp only
      by_cases hd : deafL l ⟨by_, x.View, x.Value⟩
      · rw [if_pos hd]; exact h
      · rw [if_neg hd]
        obtain ⟨h0, h1, h2⟩ := may_of_not_deaf hd
        have hw := withV_add (a := ⟨by_, x.View, x.Value⟩) h.com h1 h2.2.2.1
        exact learnedL_right (l := ⟨l.S, l.Accepts, ⟨(addV l.Commits.L ⟨by_, x.View, x.Value⟩).1⟩, l.Told, l.Done, l.Value⟩) ⟨h.sz, h.len, h.val, h.acc, hw, h.told⟩ _ hw.2.1 _
  · exact h
/-! ### votes that are alike -/
theorem hasK_no {L : List ApiAccept} {y : Int} (hs : IncK vk L) (h : ∀ e ∈ L, e.By ≠ y) : hasK vk L y = false := by
  cases hk : hasK vk L y with
  | false => rfl
  | true =>
    have := (hs.has y).1 hk
    obtain ⟨h1, h2⟩ := this
    exact absurd h2 (h _ (List.getElem_mem h1))
theorem oldV_no {L : List ApiAccept} {a : ApiAccept} (h : ∀ e ∈ L, e.By ≠ a.By) : oldV L a = false := by
  unfold oldV
  rw [List.any_eq_false]
  intro x hx
  simp [h x hx]
theorem addV_new {L : List ApiAccept} {a : ApiAccept} (hs : IncK vk L) (hm : MayV a) (h : ∀ e ∈ L, e.By ≠ a.By) : (addV L a).1.length = L.length + 1 ∧ ∀ x, x ∈ (addV L a).1 ↔ x = a ∨ x ∈ L := by
  have e : addV L a = (putV L a, true) := by unfold addV; rw [if_pos ⟨hm, oldV_no h⟩]
  rw [e]
  refine ⟨?_, fun x => ?_⟩
  · have := lbK_le (key := vk) L a.By
    simp only [putV, hasK_no hs h, List.length_append, List.length_take, List.length_drop, List.length_cons, List.length_nil]
    simp only [Bool.false_eq_true, if_false]
    omega
  · rw [putV_mem hs]
    exact ⟨fun h' => h'.imp id (·.1), fun h' => h'.imp id fun h1 => ⟨h1, h x h1⟩⟩
theorem cntV_all {L : List ApiAccept} {v : Int} {x : List UInt8} (h : ∀ e ∈ L, e.View = v ∧ e.Value = x) : cntV L v x = L.length := by
  unfold cntV
  rw [List.filter_eq_self.2]
  intro e he
  simp [hitV, h e he]
theorem best_alike {L : List ApiAccept} {v : Int} {x : List UInt8} (h : ∀ e ∈ L, e.View = v ∧ e.Value = x) (hl : 0 < L.length) (need : Int) (hn : 1 ≤ need) :
    ((L.length : Int) < need ∧ bestV L need = none) ∨ (need ≤ (L.length : Int) ∧ ∃ z, bestV L need = some z ∧ z.Value = x) := by
  cases hb : bestV L need with
  | none =>
    left
    refine ⟨?_, rfl⟩
    have := bestV_spec L need
    rw [hb] at this
    have h0 := this _ (List.getElem_mem hl)
    have h1 := h _ (List.getElem_mem hl)
    unfold goodV at h0
    rw [h1.1, h1.2, cntV_all h] at h0
    simp only [Bool.and_eq_false_iff, decide_eq_false_iff_not] at h0
    omega
  | some z =>
    right
    obtain ⟨h1, _, h2⟩ := bestV_mem hb
    obtain ⟨hv, hx⟩ := h z h1
    rw [hv, hx, cntV_all h] at h2
    exact ⟨h2, z, rfl, hx⟩
/-- what a learner is, behind so many votes that are alike, in a row -/
structure Upto (n fr v : Int) (x : List UInt8) (need : Int) (L : List ApiAccept) (done : Bool) (value : List UInt8) (i : Nat) : Prop where
  lo : (i : Int) < need → done = false ∧ L.length = i ∧ ∀ e ∈ L, (e.View = v ∧ e.Value = x) ∧ ∃ j : Nat, j < i ∧ e.By = Int.tmod (fr + j) n
  hi : need ≤ (i : Int) → done = true ∧ value = x
theorem tmod_ne {fr n : Int} (h0 : 0 ≤ fr) {i j : Nat} (hj : j < i) (hi : (i : Int) < n) : Int.tmod (fr + j) n ≠ Int.tmod (fr + i) n := by
  rw [Int.tmod_eq_emod_of_nonneg (by omega), Int.tmod_eq_emod_of_nonneg (by omega)]
  intro h
  have h1 : (fr + i - (fr + j)) % n = 0 := Int.emod_eq_emod_iff_emod_sub_eq_zero.1 h.symm
  rw [show fr + (i : Int) - (fr + j) = ((i - j : Nat) : Int) by omega, Int.emod_eq_of_lt (by omega) (by omega)] at h1
  omega
theorem tmod_rng {fr n : Int} (h0 : 0 ≤ fr) (hn : 0 < n) (i : Nat) : 0 ≤ Int.tmod (fr + i) n ∧ Int.tmod (fr + i) n < n := by
  rw [Int.tmod_eq_emod_of_nonneg (by omega)]
  exact ⟨Int.emod_nonneg _ (by omega), Int.emod_lt_of_pos _ hn⟩
/-- one vote more -/
theorem upto_step {n fr v : Int} {x : List UInt8} {need : Int} {L : List ApiAccept} {i : Nat} (hn : 1 ≤ need) (hin : (i : Int) < n) (h0 : 0 ≤ fr) (hv : 0 ≤ v) (hv2 : v ≤ 100000) (hx : x.length ≤ 6000)
    (hR : RightV L) (hlt : (i : Int) < need) (hlen : L.length = i) (hall : ∀ e ∈ L, (e.View = v ∧ e.Value = x) ∧ ∃ j : Nat, j < i ∧ e.By = Int.tmod (fr + j) n) :
    ((i : Int) + 1 < need ∧ bestV (addV L ⟨Int.tmod (fr + i) n, v, x⟩).1 need = none ∧ (addV L ⟨Int.tmod (fr + i) n, v, x⟩).1.length = i + 1 ∧ ∀ e ∈ (addV L ⟨Int.tmod (fr + i) n, v, x⟩).1, (e.View = v ∧ e.Value = x) ∧ ∃ j : Nat, j < i + 1 ∧ e.By = Int.tmod (fr + j) n) ∨
    (need ≤ (i : Int) + 1 ∧ ∃ z, bestV (addV L ⟨Int.tmod (fr + i) n, v, x⟩).1 need = some z ∧ z.Value = x) := by
  have hm : MayV ⟨Int.tmod (fr + i) n, v, x⟩ := ⟨(tmod_rng h0 (by omega) i).1, hv, hv2, hx⟩
  obtain ⟨h1, h2⟩ := addV_new (a := ⟨Int.tmod (fr + i) n, v, x⟩) hR.2 hm fun e he => by
    obtain ⟨_, j, hj, hb⟩ := hall e he
    rw [hb]
    exact tmod_ne h0 hj hin
  have hall' : ∀ e ∈ (addV L ⟨Int.tmod (fr + i) n, v, x⟩).1, (e.View = v ∧ e.Value = x) ∧ ∃ j : Nat, j < i + 1 ∧ e.By = Int.tmod (fr + j) n := by
    intro e he
    rcases (h2 e).1 he with rfl | h
    · exact ⟨⟨rfl, rfl⟩, i, by omega, rfl⟩
    · obtain ⟨h3, j, hj, h4⟩ := hall e h
      exact ⟨h3, j, by omega, h4⟩
  rcases best_alike (fun e he => (hall' e he).1) (by omega) need hn with ⟨h3, h4⟩ | ⟨h3, h4⟩
  · exact .inl ⟨by omega, h4, by omega, hall'⟩
  · exact .inr ⟨by omega, h4⟩
section
variable {s : SizeSize} {fr v : Int} {x : List UInt8} (hs : SizeOK s) (h0 : 0 ≤ fr) (hv : 0 ≤ v) (hv2 : v ≤ 100000) (hx : x.length ≤ 6000)
include hs h0 hv hv2 hx
theorem upto_accept {l : LearnerLearner} {i : Nat} (hin : (i : Int) < nOf s) (hS : l.S = s) (hr : RightL l) (h : Upto (nOf s) fr v x (3 * s.F + s.T + 1) l.Accepts.L l.Done l.Value i) :
    (acceptedL l ⟨Int.tmod (fr + i) (nOf s), v, x⟩).S = s ∧ Upto (nOf s) fr v x (3 * s.F + s.T + 1) (acceptedL l ⟨Int.tmod (fr + i) (nOf s), v, x⟩).Accepts.L (acceptedL l ⟨Int.tmod (fr + i) (nOf s), v, x⟩).Done (acceptedL l ⟨Int.tmod (fr + i) (nOf s), v, x⟩).Value (i + 1) := by
  subst hS
  have hs1 := hs.f1; have hs2 := hs.t0
  have hm : MayV ⟨Int.tmod (fr + i) (nOf l.S), v, x⟩ := ⟨(tmod_rng h0 (by omega) i).1, hv, hv2, hx⟩
  by_cases hlt : (i : Int) < 3 * l.S.F + l.S.T + 1
  · obtain ⟨h1, h2, h3⟩ := h.lo hlt
    have hd : ¬ deafL l ⟨Int.tmod (fr + i) (nOf l.S), v, x⟩ := by
      rintro (h | h | h)
      · rw [h1] at h; cases h
      · have := (tmod_rng h0 (show 0 < nOf l.S by omega) i).2; dsimp only at h; omega
      · exact h hm
    unfold acceptedL
    rw [if_neg hd]
    unfold learnedL
    rcases upto_step (n := nOf l.S) (need := 3 * l.S.F + l.S.T + 1) (by omega) hin h0 hv hv2 hx hr.acc.2 hlt h2 h3 with ⟨e1, e2, e3, e4⟩ | ⟨e1, z, e2, e3⟩
    · rw [e2]
      exact ⟨rfl, ⟨fun _ => ⟨h1, e3, e4⟩, fun h => by omega⟩⟩
    · rw [e2]
      exact ⟨rfl, ⟨fun h => by omega, fun _ => ⟨rfl, e3⟩⟩⟩
  · obtain ⟨h1, h2⟩ := h.hi (by omega)
    unfold acceptedL
    rw [if_pos (.inl h1)]
    exact ⟨rfl, ⟨fun h => by omega, fun _ => ⟨h1, h2⟩⟩⟩
theorem upto_told {l : LearnerLearner} {i : Nat} (hin : (i : Int) < nOf s) (hS : l.S = s) (hr : RightL l) (h : Upto (nOf s) fr 0 x (s.F + 1) l.Told.L l.Done l.Value i) :
    (toldL l (Int.tmod (fr + i) (nOf s)) x).S = s ∧ Upto (nOf s) fr 0 x (s.F + 1) (toldL l (Int.tmod (fr + i) (nOf s)) x).Told.L (toldL l (Int.tmod (fr + i) (nOf s)) x).Done (toldL l (Int.tmod (fr + i) (nOf s)) x).Value (i + 1) := by
  subst hS
  have hs1 := hs.f1; have hs2 := hs.t0
  have hm : MayV ⟨Int.tmod (fr + i) (nOf l.S), 0, x⟩ := ⟨(tmod_rng h0 (by omega) i).1, Int.le_refl 0, show (0 : Int) ≤ 100000 by omega, hx⟩
  by_cases hlt : (i : Int) < l.S.F + 1
  · obtain ⟨h1, h2, h3⟩ := h.lo hlt
    have hd : ¬ deafL l ⟨Int.tmod (fr + i) (nOf l.S), 0, x⟩ := by
      rintro (h | h | h)
      · rw [h1] at h; cases h
      · have := (tmod_rng h0 (show 0 < nOf l.S by omega) i).2; dsimp only at h; omega
      · exact h hm
    unfold toldL
    rw [if_neg hd]
    unfold learnedL
    rcases upto_step (n := nOf l.S) (need := l.S.F + 1) (by omega) hin h0 (Int.le_refl 0) (show (0 : Int) ≤ 100000 by omega) hx hr.told.2 hlt h2 h3 with ⟨e1, e2, e3, e4⟩ | ⟨e1, z, e2, e3⟩
    · rw [e2]
      exact ⟨rfl, ⟨fun _ => ⟨h1, e3, e4⟩, fun h => by omega⟩⟩
    · rw [e2]
      exact ⟨rfl, ⟨fun h => by omega, fun _ => ⟨rfl, e3⟩⟩⟩
  · obtain ⟨h1, h2⟩ := h.hi (by omega)
    unfold toldL
    rw [if_pos (.inl h1)]
    exact ⟨rfl, ⟨fun h => by omega, fun _ => ⟨h1, h2⟩⟩⟩
theorem upto_commit {l : LearnerLearner} {i : Nat} (p : List ApiAccept) (hp : RightP s p) (hpv : ∀ e ∈ p, e.View = v ∧ e.Value = x) (hin : (i : Int) < nOf s) (hS : l.S = s) (hr : RightL l) (h : Upto (nOf s) fr v x (2 * s.F + s.T + 1) l.Commits.L l.Done l.Value i) :
    (committedL l (Int.tmod (fr + i) (nOf s)) p).S = s ∧ Upto (nOf s) fr v x (2 * s.F + s.T + 1) (committedL l (Int.tmod (fr + i) (nOf s)) p).Commits.L (committedL l (Int.tmod (fr + i) (nOf s)) p).Done (committedL l (Int.tmod (fr + i) (nOf s)) p).Value (i + 1) := by
  subst hS
  have hs1 := hs.f1; have hs2 := hs.t0
  have hm : MayV ⟨Int.tmod (fr + i) (nOf l.S), v, x⟩ := ⟨(tmod_rng h0 (by omega) i).1, hv, hv2, hx⟩
  unfold committedL
  rw [if_pos hp]
  cases p with
  | nil => have h1 := hp.len; simp only [List.length_nil] at h1; omega
  | cons y r =>
  obtain ⟨hy1, hy2⟩ := hpv y (by simp)
  dsimp only
  rw [hy1, hy2]
  by_cases hlt : (i : Int) < 2 * l.S.F + l.S.T + 1
  · obtain ⟨h1, h2, h3⟩ := h.lo hlt
    have hd : ¬ deafL l ⟨Int.tmod (fr + i) (nOf l.S), v, x⟩ := by
      rintro (h | h | h)
      · rw [h1] at h; cases h
      · have := (tmod_rng h0 (show 0 < nOf l.S by omega) i).2; dsimp only at h; omega
      · exact h hm
    rw [if_neg hd]
    unfold learnedL
    rcases upto_step (n := nOf l.S) (need := 2 * l.S.F + l.S.T + 1) (by omega) hin h0 hv hv2 hx hr.com.2 hlt h2 h3 with ⟨e1, e2, e3, e4⟩ | ⟨e1, z, e2, e3⟩
    · rw [e2]
      exact ⟨rfl, ⟨fun _ => ⟨h1, e3, e4⟩, fun h => by omega⟩⟩
    · rw [e2]
      exact ⟨rfl, ⟨fun h => by omega, fun _ => ⟨rfl, e3⟩⟩⟩
  · obtain ⟨h1, h2⟩ := h.hi (by omega)
    rw [if_pos (.inl h1)]
    exact ⟨rfl, ⟨fun h => by omega, fun _ => ⟨h1, h2⟩⟩⟩
end
/-! ### the law -/
def pfL (v : Int) (x : List UInt8) (k : Nat) : List ApiAccept := (List.range k).map fun i : Nat => ⟨(i : Int), v, x⟩
theorem pfL_succ (v : Int) (x : List UInt8) (k : Nat) : pfL v x (k + 1) = pfL v x k ++ [⟨(k : Int), v, x⟩] := by unfold pfL; rw [List.range_succ, List.map_append]; rfl
theorem pfL_len (v : Int) (x : List UInt8) (k : Nat) : (pfL v x k).length = k := by simp [pfL]
theorem pfL_right {s : SizeSize} {v : Int} {x : List UInt8} {k : Nat} (hs : SizeOK s) (hv : 0 ≤ v) (hv2 : v ≤ 100000) (hx : x.length ≤ 6000) (hk : (k : Int) = 2 * s.F + s.T + 1) : RightP s (pfL v x k) := by
  have h1 := hs.f1; have h2 := hs.t0
  have hmem : ∀ e ∈ pfL v x k, ∃ i : Nat, i < k ∧ e = ⟨(i : Int), v, x⟩ := by
    intro e he
    obtain ⟨i, hi, rfl⟩ := List.mem_map.1 he
    exact ⟨i, List.mem_range.1 hi, rfl⟩
  refine ⟨hs, by rw [pfL_len]; exact hk, ⟨fun e he => ?_, chain_inc fun j hj => ?_⟩, fun e he => ?_, fun e he f hf => ?_⟩
  · obtain ⟨i, hi, rfl⟩ := hmem e he
    exact ⟨by show (0 : Int) ≤ (i : Int); omega, hv, hv2, hx⟩
  · have hg : ∀ q (hq : q < (pfL v x k).length), (pfL v x k)[q].By = (q : Int) := fun q hq => by simp [pfL]
    show (pfL v x k)[j].By < (pfL v x k)[j + 1].By
    rw [hg, hg]
    show ((j : Nat) : Int) < ((j + 1 : Nat) : Int)
    omega
  · obtain ⟨i, hi, rfl⟩ := hmem e he
    show (i : Int) < nOf s
    unfold nOf; omega
  · obtain ⟨i, hi, rfl⟩ := hmem e he
    obtain ⟨j, hj, rfl⟩ := hmem f hf
    exact ⟨rfl, rfl⟩
theorem learns_loop1 {s : SizeSize} (hs : SizeOK s) (a : ApiAccept) : Loop (tL22LearnerLearnsL1 s a) (([] : List ApiAccept), 0) = some (pfL a.View a.Value (2 * s.F + s.T + 1).toNat) := by
  have h1 := hs.f1; have h2 := hs.t0; have h3 := hs.f5; have h4 := hs.tf
  refine Gives.eq (Gives.count (fun k => (pfL a.View a.Value k, (k : Int))) (2 * s.F + s.T + 1).toNat (fun _ => True) rfl trivial (fun k hk _ => ?_) (fun _ => ?_))
  · unfold tL22LearnerLearnsL1
    rw [sizeProof_eq hs, bd_s]
    dsimp only
    rw [if_pos (show (k : Int) < 2 * s.F + s.T + 1 by omega), bd_s, decide_eq_true (show (k : Int) < 64 by omega), if_pos rfl, if_pos (by simp only [pfL_len, List.length_cons, List.length_nil]; omega), wrap64 (by omega) (by omega)]
    exact .mk ⟨by rw [pfL_succ]; simp, trivial⟩
  · unfold tL22LearnerLearnsL1
    rw [sizeProof_eq hs, bd_s]
    dsimp only
    rw [if_neg (show ¬ (((2 * s.F + s.T + 1).toNat : Nat) : Int) < 2 * s.F + s.T + 1 by omega), bd_s, if_neg (by decide)]
    exact .mk rfl
abbrev St3 := Int × Int × (List ApiAccept) × (List ApiAccept) × (List ApiAccept) × Bool × (List UInt8) × Int × Int × (List ApiAccept) × (List ApiAccept) × (List ApiAccept) × Bool × (List UInt8) × Int × Int × (List ApiAccept) × (List ApiAccept) × (List ApiAccept) × Bool × (List UInt8) × Int
def tup3 (l m o : LearnerLearner) (i : Int) : St3 := (l.S.F, l.S.T, l.Accepts.L, l.Commits.L, l.Told.L, l.Done, l.Value, m.S.F, m.S.T, m.Accepts.L, m.Commits.L, m.Told.L, m.Done, m.Value, o.S.F, o.S.T, o.Accepts.L, o.Commits.L, o.Told.L, o.Done, o.Value, i)
structure Inv3 (s : SizeSize) (fr : Int) (a : ApiAccept) (l m o : LearnerLearner) (i : Nat) : Prop where
  lS : l.S = s
  mS : m.S = s
  oS : o.S = s
  lR : RightL l
  mR : RightL m
  oR : RightL o
  lU : Upto (nOf s) fr a.View a.Value (3 * s.F + s.T + 1) l.Accepts.L l.Done l.Value i
  mU : Upto (nOf s) fr a.View a.Value (2 * s.F + s.T + 1) m.Commits.L m.Done m.Value i
  oU : Upto (nOf s) fr 0 a.Value (s.F + 1) o.Told.L o.Done o.Value i
theorem upto_done {n fr v : Int} {x : List UInt8} {need : Int} {L : List ApiAccept} {done : Bool} {value : List UInt8} {i : Nat} (h : Upto n fr v x need L done value i) : decide (done = decide (need ≤ (i : Int))) = true := by
  by_cases c : need ≤ (i : Int)
  · rw [(h.hi c).1, decide_eq_true c]; rfl
  · rw [(h.lo (by omega)).1, decide_eq_false c]; rfl
theorem rightV_small {L : List ApiAccept} {s : SizeSize} {last : Int} (hs : SizeOK s) (h : WithV s L last) : L.length < 2 ^ 31 := by
  have h1 := hs.f1; have h2 := hs.t0; have h3 := hs.f5; have h4 := hs.tf
  have : ∀ k (hk : k < L.length), (k : Int) ≤ L[k].By := by
    intro k
    induction k with
    | zero => intro hk; exact (h.2.1 _ (List.getElem_mem hk)).1
    | succ k ih =>
      intro hk
      have h5 := ih (by omega)
      have h6 : L[k].By < L[k + 1].By := IncK.lt (key := vk) h.2.2 hk (Nat.lt_succ_self k)
      omega
  by_cases hl : L.length = 0
  · omega
  · have h5 := this (L.length - 1) (by omega)
    have h6 := (h.1 _ (List.getElem_mem (show L.length - 1 < L.length by omega))).1
    unfold nOf at h6
    omega
theorem learnerLearns_all (s : SizeSize) (fr : Int) (a : ApiAccept) : tL22LearnerLearns s fr a = some true := by
  unfold tL22LearnerLearns
  rw [learnNew_eq, bd_s, evL22Alive]
  by_cases hs : SizeOK s
  rotate_left
  · unfold newL
    rw [if_neg hs]
    rfl
  have en : newL s = (⟨s, ⟨[]⟩, ⟨[]⟩, ⟨[]⟩, false, []⟩, 0) := by unfold newL; rw [if_pos hs]
  rw [en]
  dsimp only
  rw [decide_eq_true (rfl : (0 : Int) = 0), if_neg (by decide)]
  by_cases c1 : a.View < 0
  · rw [if_pos c1]; rfl
  rw [if_neg c1]
  by_cases c2 : (100000 : Int) < a.View
  · rw [if_pos c2]; rfl
  rw [if_neg c2]
  by_cases c3 : (6000 : Int) < (a.Value.length : Int)
  · rw [if_pos c3]; rfl
  rw [if_neg c3]
  by_cases c4 : fr < 0
  · rw [if_pos c4]; rfl
  rw [if_neg c4]
  by_cases c5 : (1000000 : Int) < fr
  · rw [decide_eq_true c5]; rfl
  rw [decide_eq_false c5, bd_s, if_neg (by decide), sizeN_eq hs, bd_s, learns_loop1 hs a, bd_s]
  have h1 := hs.f1; have h2 := hs.t0; have h3 := hs.f5; have h4 := hs.tf
  have hp : RightP s (pfL a.View a.Value (2 * s.F + s.T + 1).toNat) := pfL_right hs (by omega) (by omega) (by omega) (by omega)
  have hpv : ∀ e ∈ pfL a.View a.Value (2 * s.F + s.T + 1).toNat, e.View = a.View ∧ e.Value = a.Value := by
    intro e he
    obtain ⟨i, hi, rfl⟩ := List.mem_map.1 he
    exact ⟨rfl, rfl⟩
  generalize hpp : pfL a.View a.Value (2 * s.F + s.T + 1).toNat = p at *
  have hpl : p.length < 2 ^ 32 := by have := hp.len; omega
  have hn : 3 * s.F + 2 * s.T + 1 = nOf s := rfl
  have hloop : Gives (Loop (tL22LearnerLearnsL2 s fr a (3 * s.F + 2 * s.T + 1) p) (tup3 ⟨s, ⟨[]⟩, ⟨[]⟩, ⟨[]⟩, false, []⟩ ⟨s, ⟨[]⟩, ⟨[]⟩, ⟨[]⟩, false, []⟩ ⟨s, ⟨[]⟩, ⟨[]⟩, ⟨[]⟩, false, []⟩ 0))
      fun r => ∃ t, r = .inl t ∧ t.2.2.2.2.2.1 = true ∧ t.2.2.2.2.2.2.2.2.2.2.2.2.1 = true ∧ t.2.2.2.2.2.2.2.2.2.2.2.2.2.2.2.2.2.2.2.1 = true ∧ t.2.2.2.2.2.2.1 = a.Value ∧ t.2.2.2.2.2.2.2.2.2.2.2.2.2.1 = a.Value ∧ t.2.2.2.2.2.2.2.2.2.2.2.2.2.2.2.2.2.2.2.2 = a.Value := by
    have hrn : RightL ⟨s, ⟨[]⟩, ⟨[]⟩, ⟨[]⟩, false, []⟩ := by
      have hw : ∀ last, WithV s [] last := fun last => ⟨by simp, ⟨by simp, by simp [IncK]⟩⟩
      exact ⟨hs, by simp, fun _ => rfl, hw _, hw _, hw _⟩
    have hu0 : ∀ (v need : Int), 1 ≤ need → Upto (nOf s) fr v a.Value need [] false [] 0 := fun v need hn => ⟨fun _ => ⟨rfl, rfl, by simp⟩, fun h => by omega⟩
    refine Gives.loop (fun st => ∃ l m o, ∃ i : Nat, (i : Int) ≤ nOf s ∧ st = tup3 l m o (i : Int) ∧ Inv3 s fr a l m o i) (fun st => (nOf s - st.2.2.2.2.2.2.2.2.2.2.2.2.2.2.2.2.2.2.2.2.2).toNat)
      ⟨_, _, _, 0, by unfold nOf; omega, rfl, ⟨rfl, rfl, rfl, hrn, hrn, hrn, hu0 _ _ (by omega), hu0 _ _ (by omega), hu0 _ _ (by omega)⟩⟩ ?_
    rintro st ⟨l, m, o, i, hi, rfl, hI⟩
    unfold tL22LearnerLearnsL2 tup3
    dsimp only
    by_cases hin : (i : Int) < nOf s
    · unfold nOf at hin
      rw [if_pos hin, bd_s, decide_eq_true (show (i : Int) < 64 by omega), if_pos rfl, if_pos (by simp only [Bool.not_eq_true', decide_eq_false_iff_not]; omega), sizeFast_eq hs, sizeProof_eq hs, sizeWeak_eq hs, bd_s, bd_s, bd_s, upto_done hI.lU, upto_done hI.mU, upto_done hI.oU]
      rw [if_neg (by decide), if_neg (by decide), bd_s, if_neg (by decide), wrap64 (x := fr + i) (by omega) (by omega), wrap64 (x := (i : Int) + 1) (by omega) (by omega)]
      have e1 := accepted_eq hI.lR (rightV_small (by rw [hI.lS]; exact hs) hI.lR.acc) ⟨Int.tmod (fr + i) (nOf s), a.View, a.Value⟩
      have e2 := committed_eq hI.mR (rightV_small (by rw [hI.mS]; exact hs) hI.mR.com) (Int.tmod (fr + i) (nOf s)) p hpl
      have e3 := told_eq hI.oR (rightV_small (by rw [hI.oS]; exact hs) hI.oR.told) (Int.tmod (fr + i) (nOf s)) a.Value
      have g1 := upto_accept hs (show 0 ≤ fr by omega) (show 0 ≤ a.View by omega) (by omega) (show a.Value.length ≤ 6000 by omega) (by unfold nOf; exact hin) hI.lS hI.lR hI.lU
      have g2 := upto_commit hs (show 0 ≤ fr by omega) (show 0 ≤ a.View by omega) (by omega) (show a.Value.length ≤ 6000 by omega) p hp hpv (by unfold nOf; exact hin) hI.mS hI.mR hI.mU
      have g3 := upto_told hs (show 0 ≤ fr by omega) (show 0 ≤ a.View by omega) (by omega) (show a.Value.length ≤ 6000 by omega) (by unfold nOf; exact hin) hI.oS hI.oR hI.oU
      show Gives (bd (tLearnerAccepted l ⟨Int.tmod (fr + i) (nOf s), a.View, a.Value⟩) fun rA7 => bd (tLearnerCommitted m (Int.tmod (fr + i) (nOf s)) p) fun rA8 => bd (tLearnerTold o (Int.tmod (fr + i) (nOf s)) a.Value) fun rA9 => some (Sum.inl (tup3 rA7 rA8 rA9 ((i : Int) + 1)))) _
      rw [e1, bd_s, e2, bd_s, e3, bd_s]
      refine .mk ⟨⟨_, _, _, i + 1, by unfold nOf; omega, (by rw [show ((i + 1 : Nat) : Int) = (i : Int) + 1 by omega]; rfl), ⟨g1.1, g2.1, g3.1, acceptedL_right hI.lR _, committedL_right hI.mR _ _, toldL_right hI.oR _ _, g1.2, g2.2, g3.2⟩⟩, ?_⟩
      unfold tup3 nOf
      dsimp only
      omega
    · unfold nOf at hin hi
      rw [if_neg hin, bd_s, if_neg (by decide)]
      have g1 := hI.lU.hi (by omega)
      have g2 := hI.mU.hi (by omega)
      have g3 := hI.oU.hi (by omega)
      exact .mk ⟨_, rfl, g1.1, g2.1, g3.1, g1.2, g2.2, g3.2⟩
  obtain ⟨r, er, t, rfl, k1, k2, k3, k4, k5, k6⟩ := hloop
  have er' : Loop (tL22LearnerLearnsL2 s fr a (3 * s.F + 2 * s.T + 1) p) (s.F, s.T, [], [], [], false, [], s.F, s.T, [], [], [], false, [], s.F, s.T, [], [], [], false, [], 0) = some (.inl t) := er
  rw [er', bd_s]
  dsimp only
  rw [bd_s, if_pos rfl, if_pos k1, if_pos k2, if_pos k3, if_pos k4, if_pos k5, decide_eq_true k6]
  rfl
end Dn.S
