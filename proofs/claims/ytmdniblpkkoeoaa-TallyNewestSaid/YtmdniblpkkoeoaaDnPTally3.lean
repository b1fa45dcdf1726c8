import Derived.Test.YtmdniblpkkoeoaaDnPTally2
import Derived.Test.YtmdniblpkkoeoaaDnYV
/-
  Tallies: the laws of chapter 18. Conditions: none.
-/
open Go Dn
set_option linter.unusedVariables false
set_option linter.unusedSimpArgs false
namespace Dn.S
theorem few_eq (l : List ApiAccept) : Gives (tL18Few l) fun b => b = true → l.length ≤ 60 ∧ ∀ e ∈ l, e.Value.length ≤ 6100 := by
  unfold tL18Few
  refine Gives.bd (P := fun r => r = .inr false ∨ (r = .inl () ∧ l.length ≤ 60 ∧ ∀ e ∈ l, e.Value.length ≤ 6100)) ?_ ?_
  · refine Gives.count (fun k => (k : Int)) l.length (fun k => k ≤ 60 ∧ ∀ j (hj : j < l.length), j < k → l[j].Value.length ≤ 6100) rfl ⟨by omega, fun j _ h => by omega⟩ (fun k hk hp => ?_) (fun hp => ?_)
    · unfold tL18FewL1
      simp only [show ((k : Int) < (l.length : Int)) by omega, if_true]
      by_cases h40 : k = 60
      · simp only [show ((k : Int) = 60) by omega, if_true, bd_s]
        exact .mk (.inl rfl)
      · simp only [show ¬ ((k : Int) = 60) by omega, if_false, ix_nat hk, bd_s]
        by_cases hv : (6100 : Int) < (l[k].Value.length : Int)
        · simp only [hv, decide_true, if_true]; exact .mk (.inl rfl)
        · simp only [hv, decide_false, Bool.false_eq_true, if_false]
          rw [wrap64 (by omega) (by omega)]
          refine .mk ⟨by omega, by omega, fun j hj hjk => ?_⟩
          by_cases hjk2 : j = k
          · subst hjk2; omega
          · exact hp.2 j hj (by omega)
    · unfold tL18FewL1
      simp only [show ¬ ((l.length : Int) < (l.length : Int)) by omega, if_false]
      refine .mk (.inr ⟨rfl, hp.1, fun e he => ?_⟩)
      obtain ⟨k, hk, rfl⟩ := List.mem_iff_getElem.1 he
      exact hp.2 k hk hk
  · rintro r (rfl | ⟨rfl, h⟩)
    · exact .mk (by simp)
    · exact .mk (fun _ => h)
theorem plain_eq (t : TallyTally) : tL18Plain t = some ⟨t.L⟩ := rfl
/-- two answers to one question -/
theorem same_ans {a b : Bool} {P : Prop} (h : a = true ↔ P) (h' : b = true ↔ P) : a = b := by
  cases a <;> cases b <;> simp_all
theorem tallyMay_all (a : ApiAccept) (t : TallyTally) (u : List ApiAccept) : tL18TallyMay a t u = some true := by
  unfold tL18TallyMay
  obtain ⟨b1, e1, h1⟩ := few_eq t.L
  obtain ⟨b2, e2, h2⟩ := few_eq u
  rw [e1]
  simp only [bd_s, evL18Alive]
  cases b1 with
  | false => simp
  | true =>
    rw [e2]
    simp only [bd_s, Bool.not_true, Bool.false_eq_true, if_false]
    cases b2 with
    | false => simp
    | true =>
      simp only [Bool.not_true, Bool.false_eq_true, if_false, bd_s]
      by_cases hv : (6100 : Int) < (a.Value.length : Int)
      · simp [hv]
      · obtain ⟨g1, _⟩ := h1 rfl
        obtain ⟨g2, _⟩ := h2 rfl
        obtain ⟨L⟩ := t
        simp only at g1
        obtain ⟨r1, e3, h3⟩ := tallyright_eq L (by omega)
        obtain ⟨r2, e4, h4⟩ := r18right_eq L (by omega)
        have hr := same_ans h3 h4
        simp only [hv, decide_false, Bool.false_eq_true, if_false, tallymay_eq, r18may_eq, bd_s, if_true, e3, plain_eq, e4, hr, tallysame_eq L u (by omega), r18same_eq L u (by omega), decide_true]
/-- .. of a tally that is right -/
theorem tallyTells_all (a : TallyTally) (a1 : ApiAccept) (a2 : Int) : tL18TallyTells a a1 a2 = some true := by
  unfold tL18TallyTells
  obtain ⟨b1, e1, h1⟩ := few_eq a.L
  rw [e1]
  simp only [bd_s, evL18Alive]
  cases b1 with
  | false => simp
  | true =>
    obtain ⟨g1, _⟩ := h1 rfl
    obtain ⟨L⟩ := a
    simp only at g1
    simp only [Bool.not_true, Bool.false_eq_true, if_false]
    by_cases hv : (6100 : Int) < (a1.Value.length : Int)
    · simp [hv]
    · obtain ⟨r2, e4, h4⟩ := r18right_eq L (by omega)
      simp only [hv, if_false, plain_eq, bd_s, e4]
      cases r2 with
      | false => simp
      | true =>
        have hr := h4.1 rfl
        simp only [Bool.not_true, Bool.false_eq_true, if_false]
        have hal := addV_len (L := L) (a := a1)
        rw [if_pos (by simp only [List.length_nil]; omega)]
        simp only [tallyadd_eq hr.inc (show L.length < 2 ^ 32 by omega), bd_s, r18add_eq hr.inc (show L.length < 2 ^ 32 by omega), tallybest_eq a2 (fun e he => (hr.all e he).2.1) (show L.length < 2 ^ 32 by omega), r18best_eq L a2 (by omega),
          r18same_eq _ _ (show (addV L a1).1.length < 2 ^ 60 by omega), decide_true, if_true, count_eq L _ _ (show L.length < 2 ^ 32 by omega), r18count_eq L _ _ (show L.length < 2 ^ 32 by omega), voters_eq L _ _ (show L.length < 2 ^ 32 by omega), r18voters_eq L _ _ (show L.length < 2 ^ 32 by omega)]
        rw [r18same_eq _ _ (Nat.lt_of_le_of_lt (List.length_filter_le _ _) (by omega))]
        simp only [decide_true, bd_s, if_true, List.nil_append, r18same_eq L L (by omega)]
theorem tallyBest_all (a : TallyTally) (a1 : Int) : tL18TallyBest a a1 = some true := by
  unfold tL18TallyBest
  obtain ⟨b1, e1, h1⟩ := few_eq a.L
  rw [e1]
  simp only [bd_s, evL18Alive]
  cases b1 with
  | false => simp
  | true =>
    obtain ⟨g1, _⟩ := h1 rfl
    obtain ⟨L⟩ := a
    simp only at g1
    have hl32 : L.length < 2 ^ 32 := by omega
    simp only [Bool.not_true, Bool.false_eq_true, if_false]
    obtain ⟨r2, e4, h4⟩ := r18right_eq L (by omega)
    simp only [plain_eq, bd_s, e4]
    cases r2 with
    | false => simp
    | true =>
      have hr := h4.1 rfl
      have hv : ∀ e ∈ L, 0 ≤ e.View := fun e he => (hr.all e he).2.1
      simp only [Bool.not_true, Bool.false_eq_true, if_false, tallybest_eq a1 hv hl32, bd_s]
      have hspec := bestV_spec L a1
      have hloop : ∀ q : Int × List UInt8 × Bool, q = resV (bestV L a1) → Loop (tL18TallyBestL1 ⟨L⟩ a1 q) 0 = some (.inl ()) := by
        intro q hq
        refine Gives.eq (Gives.count (fun k => (k : Int)) L.length (fun _ => True) rfl trivial (fun k hk _ => ?_) (fun _ => ?_))
        · unfold tL18TallyBestL1
          simp only [show ((k : Int) < (L.length : Int)) by omega, if_true, ix_nat hk, count_eq L _ _ hl32, bd_s]
          have hno : (if (1 : Int) ≤ a1 then if a1 ≤ (cntV L L[k].View L[k].Value : Int) then if !q.2.2 then some true else some (decide (q.1 < L[k].View)) else some false else some false : Option Bool) = some false := by
            by_cases c1 : (1 : Int) ≤ a1
            · by_cases c2 : a1 ≤ (cntV L L[k].View L[k].Value : Int)
              · have hg : goodV L a1 L[k] = true := by simp [goodV, c1, c2]
                cases hb : bestV L a1 with
                | none =>
                  rw [hb] at hspec
                  have := hspec _ (List.getElem_mem hk)
                  rw [hg] at this; cases this
                | some z =>
                  rw [hb] at hspec hq
                  subst hq
                  have := hspec.2.2 _ (List.getElem_mem hk) hg
                  simp [c1, c2, show ¬ z.View < L[k].View by omega]
              · simp [c1, c2]
            · simp [c1]
          rw [hno]
          simp only [bd_s, Bool.false_eq_true, if_false]
          rw [wrap64 (by omega) (by omega)]
          exact .mk ⟨by omega, trivial⟩
        · unfold tL18TallyBestL1
          simp only [show ¬ ((L.length : Int) < (L.length : Int)) by omega, if_false]
          exact .mk rfl
      rw [hloop _ rfl]
      simp only [bd_s]
      cases hb : bestV L a1 with
      | none => simp [evL18Alive]
      | some z =>
        rw [hb] at hspec
        obtain ⟨hz, hg, _⟩ := hspec
        simp only [goodV, Bool.and_eq_true, decide_eq_true_eq] at hg
        simp only [Bool.not_true, Bool.false_eq_true, if_false, tallybest_eq _ hv hl32, bd_s, if_true, hg.1, hg.2, count_eq L _ _ hl32, voters_eq L _ _ hl32]
        have hspec2 := bestV_spec L (imax (IntKind.wrap .i64 (a1 - 1)) 1)
        have hcl := cntV_le L z.View z.Value
        have hm : 1 ≤ imax (IntKind.wrap .i64 (a1 - 1)) 1 ∧ imax (IntKind.wrap .i64 (a1 - 1)) 1 ≤ a1 := by
          rw [wrap64 (by omega) (by omega)]
          unfold imax; split <;> omega
        have hg2 : goodV L (imax (IntKind.wrap .i64 (a1 - 1)) 1) z = true := by simp only [goodV, Bool.and_eq_true, decide_eq_true_eq]; omega
        cases hb2 : bestV L (imax (IntKind.wrap .i64 (a1 - 1)) 1) with
        | none =>
          rw [hb2] at hspec2
          have := hspec2 z hz
          rw [hg2] at this; cases this
        | some z2 =>
          rw [hb2] at hspec2
          have := hspec2.2.2 z hz hg2
          have hcc : a1 ≤ ((L.filter (hitV z.View z.Value)).length : Int) := hg.2
          simp [this, cntV, hcc]
theorem inc_ext {A B : List ApiAccept} (hA : IncK vk A) (hB : IncK vk B) (h : ∀ x, x ∈ A ↔ x ∈ B) : A = B := by
  have irr : ∀ {L : List ApiAccept}, IncK vk L → ∀ x ∈ L, ∀ y ∈ L, x.By = y.By → x = y := by
    intro L hL x hx y hy he
    obtain ⟨i, hi, rfl⟩ := List.mem_iff_getElem.1 hx
    obtain ⟨j, hj, rfl⟩ := List.mem_iff_getElem.1 hy
    rcases Nat.lt_trichotomy i j with h1 | h1 | h1
    · have := hL.lt hj h1; simp only [vk] at this; omega
    · subst h1; rfl
    · have := hL.lt hi h1; simp only [vk] at this; omega
  induction A generalizing B with
  | nil =>
    cases B with
    | nil => rfl
    | cons y B => exact absurd ((h y).2 (by simp)) (by simp)
  | cons x A ih =>
    cases B with
    | nil => exact absurd ((h x).1 (by simp)) (by simp)
    | cons y B =>
      have hA' := List.pairwise_cons.1 hA
      have hB' := List.pairwise_cons.1 hB
      have hxy : x = y := by
        rcases List.mem_cons.1 ((h x).1 (by simp)) with h1 | h1
        · exact h1
        · rcases List.mem_cons.1 ((h y).2 (by simp)) with h2 | h2
          · exact h2.symm
          · have g1 := hB'.1 x h1
            have g2 := hA'.1 y h2
            simp only [vk] at g1 g2
            omega
      subst hxy
      congr 1
      refine ih hA'.2 hB'.2 fun z => ?_
      constructor
      · intro hz
        rcases List.mem_cons.1 ((h z).1 (List.mem_cons_of_mem _ hz)) with h1 | h1
        · subst h1; have := hA'.1 z hz; simp only [vk] at this; omega
        · exact h1
      · intro hz
        rcases List.mem_cons.1 ((h z).2 (List.mem_cons_of_mem _ hz)) with h1 | h1
        · subst h1; have := hB'.1 z hz; simp only [vk] at this; omega
        · exact h1
theorem oldV_iff {L : List ApiAccept} {a : ApiAccept} : oldV L a = true ↔ ∃ x ∈ L, x.By = a.By ∧ a.View ≤ x.View := by
  unfold oldV; rw [List.any_eq_true]; simp
theorem addV_mem {L : List ApiAccept} {a x : ApiAccept} (hs : IncK vk L) : x ∈ (addV L a).1 ↔ if MayV a ∧ oldV L a = false then x = a ∨ (x ∈ L ∧ x.By ≠ a.By) else x ∈ L := by
  unfold addV
  split
  · exact putV_mem hs
  · rfl
theorem addV_inc {L : List ApiAccept} {a : ApiAccept} (hs : IncK vk L) : IncK vk (addV L a).1 := by
  unfold addV
  split
  · exact putV_inc hs
  · exact hs
theorem addV_snd {L : List ApiAccept} {a : ApiAccept} : (addV L a).2 = decide (MayV a ∧ oldV L a = false) := by
  unfold addV; split <;> simp_all
theorem addV_again {L : List ApiAccept} {a : ApiAccept} (hs : IncK vk L) : addV (addV L a).1 a = ((addV L a).1, false) := by
  have key : ¬ (MayV a ∧ oldV (addV L a).1 a = false) := by
    rintro ⟨hm, ho⟩
    by_cases hc : MayV a ∧ oldV L a = false
    · have : oldV (addV L a).1 a = true := oldV_iff.2 ⟨a, (addV_mem hs).2 (by rw [if_pos hc]; exact .inl rfl), rfl, Int.le_refl _⟩
      rw [ho] at this; cases this
    · have h1 : oldV L a = true := by
        cases hq : oldV L a with
        | true => rfl
        | false => exact absurd ⟨hm, hq⟩ hc
      have h2 : (addV L a).1 = L := by unfold addV; rw [if_neg hc]
      rw [h2, h1] at ho; cases ho
  generalize (addV L a).1 = M at key
  unfold addV
  rw [if_neg key]
theorem oldV_other {L : List ApiAccept} {a b : ApiAccept} (hs : IncK vk L) (hne : a.By ≠ b.By) : oldV (addV L a).1 b = oldV L b := by
  rw [Bool.eq_iff_iff, oldV_iff, oldV_iff]
  constructor
  · rintro ⟨x, hx, h1, h2⟩
    rw [addV_mem hs] at hx
    split at hx
    · rcases hx with rfl | ⟨hx, _⟩
      · exact absurd h1 hne
      · exact ⟨x, hx, h1, h2⟩
    · exact ⟨x, hx, h1, h2⟩
  · rintro ⟨x, hx, h1, h2⟩
    refine ⟨x, ?_, h1, h2⟩
    rw [addV_mem hs]
    split
    · exact .inr ⟨hx, fun he => hne (he.symm.trans h1)⟩
    · exact hx
theorem addV_comm {L : List ApiAccept} {a b : ApiAccept} (hs : IncK vk L) (hne : a.By ≠ b.By) : (addV (addV L a).1 b).1 = (addV (addV L b).1 a).1 := by
  refine inc_ext (addV_inc (addV_inc hs)) (addV_inc (addV_inc hs)) fun x => ?_
  rw [addV_mem (addV_inc hs), addV_mem (addV_inc hs), oldV_other hs hne, oldV_other hs hne.symm, addV_mem hs, addV_mem hs]
  by_cases ha : MayV a ∧ oldV L a = false <;> by_cases hb : MayV b ∧ oldV L b = false
  · rw [if_pos ha, if_pos hb, if_pos ha, if_pos hb]
    constructor
    · rintro (rfl | ⟨rfl | ⟨h1, h2⟩, h3⟩)
      · exact .inr ⟨.inl rfl, fun he => hne he.symm⟩
      · exact .inl rfl
      · exact .inr ⟨.inr ⟨h1, h3⟩, h2⟩
    · rintro (rfl | ⟨rfl | ⟨h1, h2⟩, h3⟩)
      · exact .inr ⟨.inl rfl, hne⟩
      · exact .inl rfl
      · exact .inr ⟨.inr ⟨h1, h3⟩, h2⟩
  · simp only [if_pos ha, if_neg hb]
  · simp only [if_neg ha, if_pos hb]
  · simp only [if_neg ha, if_neg hb]
theorem tallyTwo_all (a : TallyTally) (a1 a2 : ApiAccept) : tL18TallyTwo a a1 a2 = some true := by
  unfold tL18TallyTwo
  obtain ⟨b1, e1, h1⟩ := few_eq a.L
  rw [e1]
  simp only [bd_s, evL18Alive]
  cases b1 with
  | false => simp
  | true =>
    obtain ⟨g1, _⟩ := h1 rfl
    obtain ⟨L⟩ := a
    simp only at g1
    simp only [Bool.not_true, Bool.false_eq_true, if_false]
    by_cases hv : (6100 : Int) < (a1.Value.length : Int)
    · simp [hv]
    by_cases hv2 : (6100 : Int) < (a2.Value.length : Int)
    · simp [hv, hv2]
    obtain ⟨r2, e4, h4⟩ := r18right_eq L (by omega)
    simp only [hv, hv2, if_false, plain_eq, bd_s, e4]
    cases r2 with
    | false => simp
    | true =>
      have hr := h4.1 rfl
      have hl0 : L.length < 2 ^ 32 := by omega
      have l1 := addV_len (L := L) (a := a1)
      have l2 := addV_len (L := L) (a := a2)
      have l3 := addV_len (L := (addV L a1).1) (a := a2)
      have l4 := addV_len (L := (addV L a2).1) (a := a1)
      have hl1 : (addV L a1).1.length < 2 ^ 32 := by omega
      have hl2 : (addV L a2).1.length < 2 ^ 32 := by omega
      have hr1 := addV_right (a := a1) hr
      have hr2 := addV_right (a := a2) hr
      have hr3 := addV_right (a := a2) hr1
      obtain ⟨r3, e5, h5⟩ := tallyright_eq (addV (addV L a1).1 a2).1 (by omega)
      have hr3b : r3 = true := h5.2 hr3
      subst hr3b
      simp only [Bool.not_true, Bool.false_eq_true, if_false, tallyadd_eq hr.inc hl0, tallyadd_eq hr1.inc hl1, tallyadd_eq hr2.inc hl2, bd_s, addV_again hr.inc, tallysame_eq _ _ (show (addV L a1).1.length < 2 ^ 60 by omega), decide_true, e5, if_true]
      by_cases hby : a1.By = a2.By
      · simp [hby]
      · simp only [hby, if_false, addV_comm hr.inc hby, tallysame_eq _ _ (show (addV (addV L a2).1 a1).1.length < 2 ^ 60 by omega), decide_true, bd_s, if_true, addV_snd, oldV_other hr.inc hby, oldV_other hr.inc (Ne.symm hby), bd_id]
end Dn.S
