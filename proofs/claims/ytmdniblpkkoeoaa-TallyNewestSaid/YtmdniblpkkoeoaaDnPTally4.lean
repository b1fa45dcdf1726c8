import Derived.Test.YtmdniblpkkoeoaaDnPTally3
/-
  Tallies: of any votes that come, the newest ones are there. Conditions: none.
-/
open Go Dn
set_option linter.unusedVariables false
set_option linter.unusedSimpArgs false
namespace Dn.S
def foldV (l : List ApiAccept) : List ApiAccept := l.foldl (fun T x => (addV T x).1) []
/-- is vote j none that is newer than vote i -/
def behV (l : List ApiAccept) (i j : Nat) : Prop := ∀ x y, l[i]? = some x → l[j]? = some y → y.By = x.By → MayV y → y.View < x.View ∨ (y.View = x.View ∧ i ≤ j)
def nwV (l : List ApiAccept) (k i : Nat) : Prop := i < k ∧ (∀ x, l[i]? = some x → MayV x) ∧ ∀ j, j < k → behV l i j
theorem foldV_right (l : List ApiAccept) : RightV (foldV l) := by
  unfold foldV
  have : ∀ T : List ApiAccept, RightV T → RightV (l.foldl (fun T x => (addV T x).1) T) := by
    induction l with
    | nil => intro T h; exact h
    | cons x l ih => intro T h; exact ih _ (addV_right h)
  exact this [] ⟨by simp, List.Pairwise.nil⟩
theorem foldV_len (l : List ApiAccept) : (foldV l).length ≤ l.length := by
  unfold foldV
  have : ∀ T : List ApiAccept, (l.foldl (fun T x => (addV T x).1) T).length ≤ T.length + l.length := by
    induction l with
    | nil => intro T; simp
    | cons x l ih => intro T; have := ih (addV T x).1; have := addV_len (L := T) (a := x); simp only [List.foldl_cons, List.length_cons]; omega
  have := this []
  simpa using this
theorem foldV_inv (l : List ApiAccept) : ∀ k, k ≤ l.length → (∀ x ∈ foldV (l.take k), ∃ i, l[i]? = some x ∧ nwV l k i) ∧ (∀ j y, j < k → l[j]? = some y → MayV y → ∃ x ∈ foldV (l.take k), x.By = y.By ∧ y.View ≤ x.View) := by
  intro k
  induction k with
  | zero => intro _; exact ⟨fun x hx => by simp [foldV] at hx, fun j y hj => by omega⟩
  | succ k ih =>
    intro hk
    have hk' : k < l.length := by omega
    obtain ⟨A, B⟩ := ih (by omega)
    have hs := (foldV_right (l.take k)).inc
    have hstep : foldV (l.take (k + 1)) = (addV (foldV (l.take k)) l[k]).1 := foldl_take_succ hk'
    have hlk : l[k]? = some l[k] := List.getElem?_eq_getElem hk'
    rw [hstep]
    by_cases hc : MayV l[k] ∧ oldV (foldV (l.take k)) l[k] = false
    · have hmem : ∀ x, x ∈ (addV (foldV (l.take k)) l[k]).1 ↔ x = l[k] ∨ (x ∈ foldV (l.take k) ∧ x.By ≠ l[k].By) := fun x => by rw [addV_mem hs, if_pos hc]
      have hnew : ∀ x ∈ foldV (l.take k), x.By = l[k].By → x.View < l[k].View := by
        intro x hx he
        refine Int.lt_of_not_ge fun hge => ?_
        have := oldV_iff.2 ⟨x, hx, he, hge⟩
        rw [hc.2] at this; cases this
      constructor
      · intro x hx
        rcases (hmem x).1 hx with rfl | ⟨hx, hne⟩
        · refine ⟨k, hlk, Nat.lt_succ_self k, fun x hx => by rw [hlk] at hx; cases hx; exact hc.1, fun j hj x y hx hy hby hm => ?_⟩
          rw [hlk] at hx; cases hx
          by_cases hjk : j = k
          · subst hjk; rw [hlk] at hy; cases hy; exact .inr ⟨rfl, Nat.le_refl _⟩
          · obtain ⟨z, hz, h1, h2⟩ := B j y (by omega) hy hm
            have := hnew z hz (h1.trans hby)
            exact .inl (by omega)
        · obtain ⟨i, hi, h1, h2, h3⟩ := A x hx
          refine ⟨i, hi, by omega, h2, fun j hj => ?_⟩
          by_cases hjk : j = k
          · subst hjk
            intro x' y hx' hy hby _
            rw [hi] at hx'; cases hx'
            rw [hlk] at hy; cases hy
            exact absurd hby.symm hne
          · exact h3 j (by omega)
      · intro j y hj hy hm
        by_cases hjk : j = k
        · subst hjk; rw [hlk] at hy; cases hy; exact ⟨_, (hmem _).2 (.inl rfl), rfl, Int.le_refl _⟩
        · obtain ⟨z, hz, h1, h2⟩ := B j y (by omega) hy hm
          by_cases hzb : z.By = l[k].By
          · have := hnew z hz hzb
            exact ⟨l[k], (hmem _).2 (.inl rfl), by rw [← hzb, h1], by omega⟩
          · exact ⟨z, (hmem _).2 (.inr ⟨hz, hzb⟩), h1, h2⟩
    · have hmem : ∀ x, x ∈ (addV (foldV (l.take k)) l[k]).1 ↔ x ∈ foldV (l.take k) := fun x => by rw [addV_mem hs, if_neg hc]
      have hold : MayV l[k] → ∃ z ∈ foldV (l.take k), z.By = l[k].By ∧ l[k].View ≤ z.View := by
        intro hm
        refine oldV_iff.1 ?_
        cases hq : oldV (foldV (l.take k)) l[k] with
        | true => rfl
        | false => exact absurd ⟨hm, hq⟩ hc
      constructor
      · intro x hx
        obtain ⟨i, hi, h1, h2, h3⟩ := A x ((hmem x).1 hx)
        refine ⟨i, hi, by omega, h2, fun j hj => ?_⟩
        by_cases hjk : j = k
        · subst hjk
          intro x' y hx' hy hby hm
          rw [hi] at hx'; cases hx'
          rw [hlk] at hy; cases hy
          obtain ⟨z, hz, g1, g2⟩ := hold hm
          have hzx : z = x := by
            obtain ⟨p, hp, rfl⟩ := List.mem_iff_getElem.1 hz
            obtain ⟨q, hq, rfl⟩ := List.mem_iff_getElem.1 ((hmem x).1 hx)
            rcases Nat.lt_trichotomy p q with h | h | h
            · have := hs.lt hq h; simp only [vk] at this; omega
            · subst h; rfl
            · have := hs.lt hp h; simp only [vk] at this; omega
          subst hzx
          rcases Int.lt_or_eq_of_le g2 with h | h
          · exact .inl h
          · exact .inr ⟨h, by omega⟩
        · exact h3 j (by omega)
      · intro j y hj hy hm
        by_cases hjk : j = k
        · subst hjk; rw [hlk] at hy; cases hy
          obtain ⟨z, hz, g1, g2⟩ := hold hm
          exact ⟨z, (hmem z).2 hz, g1, g2⟩
        · obtain ⟨z, hz, h1, h2⟩ := B j y (by omega) hy hm
          exact ⟨z, (hmem z).2 hz, h1, h2⟩
theorem nw_uniq {l : List ApiAccept} {k i j : Nat} {x y : ApiAccept} (hi : nwV l k i) (hj : nwV l k j) (hx : l[i]? = some x) (hy : l[j]? = some y) (he : x.By = y.By) : i = j := by
  have h1 := hi.2.2 j hj.1 x y hx hy he.symm (hj.2.1 y hy)
  have h2 := hj.2.2 i hi.1 y x hy hx he (hi.2.1 x hx)
  omega
theorem foldV_mem {l : List ApiAccept} {i : Nat} {x : ApiAccept} (hx : l[i]? = some x) : (nwV l l.length i → x ∈ foldV l) := by
  intro hn
  obtain ⟨A, B⟩ := foldV_inv l l.length (Nat.le_refl _)
  rw [List.take_length] at A B
  obtain ⟨z, hz, h1, h2⟩ := B i x hn.1 hx (hn.2.1 x hx)
  obtain ⟨j, hj, hnj⟩ := A z hz
  have := nw_uniq hn hnj hx hj h1.symm
  subst this
  rw [hx] at hj; cases hj
  exact hz
theorem len_le {α : Type} [DecidableEq α] : ∀ {l m : List α}, l.Nodup → (∀ x ∈ l, x ∈ m) → l.length ≤ m.length
  | [], m, _, _ => Nat.zero_le _
  | x :: l, m, hn, hs => by
    have hn := List.nodup_cons.1 hn
    have h1 : l.length ≤ (m.erase x).length := len_le hn.2 fun y hy => (List.mem_erase_of_ne (fun he => hn.1 (by rw [← he]; exact hy))).2 (hs y (by simp [hy]))
    have h2 := List.length_erase_of_mem (hs x (by simp))
    have h3 : 0 < m.length := List.length_pos_of_mem (hs x (by simp))
    simp only [List.length_cons]; omega
open Classical in
theorem foldV_count (l : List ApiAccept) : ((List.range l.length).filter fun i => decide (nwV l l.length i)).length = (foldV l).length := by
  obtain ⟨A, B⟩ := foldV_inv l l.length (Nat.le_refl _)
  rw [List.take_length] at A B
  have hs := (foldV_right l).inc
  -- numbers and votes, one to one
  have hpick : ∀ x ∈ foldV l, ∃ i, l[i]? = some x ∧ nwV l l.length i := A
  refine Nat.le_antisymm ?_ ?_
  · have hnd : (((List.range l.length).filter fun i => decide (nwV l l.length i)).map fun i => l[i]?).Nodup := by
      rw [List.nodup_iff_pairwise_ne, List.pairwise_map]
      refine List.Pairwise.imp_of_mem ?_ (List.Pairwise.filter _ List.nodup_range)
      intro i j hi hj hne he
      simp only [List.mem_filter, List.mem_range, decide_eq_true_eq] at hi hj
      refine hne (nw_uniq hi.2 hj.2 (List.getElem?_eq_getElem hi.1) ((he ▸ List.getElem?_eq_getElem hi.1)) rfl)
    have := len_le (m := (foldV l).map some) hnd (by
      intro o ho
      obtain ⟨i, hi, rfl⟩ := List.mem_map.1 ho
      simp only [List.mem_filter, List.mem_range, decide_eq_true_eq] at hi
      rw [List.getElem?_eq_getElem hi.1]
      exact List.mem_map.2 ⟨_, foldV_mem (List.getElem?_eq_getElem hi.1) hi.2, rfl⟩)
    simpa using this
  · have hnd : ((foldV l).map some).Nodup := by
      rw [List.nodup_iff_pairwise_ne, List.pairwise_map]
      refine List.Pairwise.imp ?_ hs
      intro a b hab he
      cases he
      simp only [vk] at hab; omega
    have := len_le (m := ((List.range l.length).filter fun i => decide (nwV l l.length i)).map fun i => l[i]?) hnd (by
      intro o ho
      obtain ⟨x, hx, rfl⟩ := List.mem_map.1 ho
      obtain ⟨i, hi, hn⟩ := A x hx
      exact List.mem_map.2 ⟨i, by simp only [List.mem_filter, List.mem_range, decide_eq_true_eq]; exact ⟨hn.1, hn⟩, hi⟩)
    simpa using this
open Classical in
theorem tallyNewest_all (a : List ApiAccept) : tL18TallyNewest a = some true := by
  unfold tL18TallyNewest
  obtain ⟨b1, e1, h1⟩ := few_eq a
  rw [e1]
  simp only [bd_s, evL18Alive]
  cases b1 with
  | false => simp
  | true =>
    obtain ⟨g1, _⟩ := h1 rfl
    simp only [Bool.not_true, Bool.false_eq_true, if_false]
    have hloop : Loop (tL18TallyNewestL1 a) (([] : List ApiAccept), 0) = some (foldV a) := by
      refine Gives.eq (Gives.count (fun k => (foldV (a.take k), (k : Int))) a.length (fun _ => True) (by simp [foldV]) trivial (fun k hk _ => ?_) (fun _ => ?_))
      · unfold tL18TallyNewestL1
        have hr := foldV_right (a.take k)
        have hl := foldV_len (a.take k)
        have hl2 : (foldV (a.take k)).length < 2 ^ 32 := by rw [List.length_take] at hl; omega
        simp only [show ((k : Int) < (a.length : Int)) by omega, if_true, ix_nat hk, tallyadd_eq hr.inc hl2, bd_s]
        rw [wrap64 (by omega) (by omega)]
        refine .mk ⟨?_, trivial⟩
        rw [show foldV (a.take (k + 1)) = (addV (foldV (a.take k)) a[k]).1 from foldl_take_succ hk]
        simp
      · unfold tL18TallyNewestL1
        simp only [show ¬ ((a.length : Int) < (a.length : Int)) by omega, if_false, List.take_length]
        exact .mk rfl
    rw [hloop]
    have hfl := foldV_len a
    obtain ⟨r2, e4, h4⟩ := r18right_eq (foldV a) (by omega)
    have hr2 : r2 = true := h4.2 (foldV_right a)
    subst hr2
    simp only [bd_s, plain_eq, e4, Bool.not_true, Bool.false_eq_true, if_false]
    -- is a vote the newest one
    have hnew : ∀ (i : Nat) (hi : i < a.length) (h : Int), Loop (tL18TallyNewestL2 a (h, (i : Int))) (decide (MayV a[i]), 0) = some (decide (nwV a a.length i)) := by
      intro i hi h
      have hai : a[i]? = some a[i] := List.getElem?_eq_getElem hi
      have key : ∀ k, k ≤ a.length → (decide (MayV a[i] ∧ ∀ j, j < k → behV a i j)) = decide (MayV a[i] ∧ ∀ j, j < k → behV a i j) := fun _ _ => rfl
      refine Gives.eq (Gives.count (fun k => (decide (MayV a[i] ∧ ∀ j, j < k → behV a i j), (k : Int))) a.length (fun _ => True) (by simp) trivial (fun k hk _ => ?_) (fun _ => ?_))
      · unfold tL18TallyNewestL2
        have hak : a[k]? = some a[k] := List.getElem?_eq_getElem hk
        have hw : IntKind.wrap .i64 ((k : Int) + 1) = ((k + 1 : Nat) : Int) := by rw [wrap64 (by omega) (by omega)]; omega
        have hstep : decide (MayV a[i] ∧ ∀ j, j < k + 1 → behV a i j) = (decide (MayV a[i] ∧ ∀ j, j < k → behV a i j) && decide (behV a i k)) := by
          rw [← Bool.decide_and, decide_eq_decide]
          constructor
          · rintro ⟨h1, h2⟩; exact ⟨⟨h1, fun j hj => h2 j (by omega)⟩, h2 k (by omega)⟩
          · rintro ⟨⟨h1, h2⟩, h3⟩
            refine ⟨h1, fun j hj => ?_⟩
            by_cases hjk : j = k
            · subst hjk; exact h3
            · exact h2 j (by omega)
        have hbeh : behV a i k ↔ (a[k].By = a[i].By → MayV a[k] → a[k].View < a[i].View ∨ (a[k].View = a[i].View ∧ i ≤ k)) := by
          constructor
          · intro hb; exact hb _ _ hai hak
          · intro hb x y hx hy; rw [hai] at hx; rw [hak] at hy; cases hx; cases hy; exact hb
        have hbool : decide (behV a i k) = (!(decide (a[k].By = a[i].By) && decide (MayV a[k])) || (decide (a[k].View < a[i].View) || (decide (a[k].View = a[i].View) && decide ((i : Int) ≤ (k : Int))))) := by
          by_cases c1 : a[k].By = a[i].By <;> by_cases c2 : MayV a[k]
          · rw [Bool.eq_iff_iff, decide_eq_true_iff, hbeh]
            simp only [c1, c2, decide_true, Bool.and_self, Bool.not_true, Bool.false_or, Bool.or_eq_true, Bool.and_eq_true, decide_eq_true_iff, Int.ofNat_le]
            exact ⟨fun h => h trivial trivial, fun h _ _ => h⟩
          · rw [decide_eq_true (hbeh.2 fun _ h => absurd h c2)]; simp [c2]
          · rw [decide_eq_true (hbeh.2 fun h => absurd h c1)]; simp [c1]
          · rw [decide_eq_true (hbeh.2 fun h => absurd h c1)]; simp [c1]
        simp only [show ((k : Int) < (a.length : Int)) by omega, if_true, ix_nat hk, ix_nat hi, r18may_eq, bd_s, hw, hstep, hbool]
        generalize decide (MayV a[i] ∧ ∀ j, j < k → behV a i j) = b
        by_cases c1 : a[k].By = a[i].By <;> by_cases c2 : MayV a[k] <;> by_cases c3 : a[k].View < a[i].View <;> by_cases c4 : a[k].View = a[i].View <;> by_cases c5 : (i : Int) ≤ (k : Int) <;> cases b <;> first | (exfalso; omega) | skip
        all_goals
          simp only [c1, c2, c3, c4, c5, if_true, if_false, bd_s, decide_true, decide_false, Bool.not_true, Bool.not_false, Bool.false_eq_true, Bool.true_and, Bool.false_and, Bool.and_true, Bool.and_false, Bool.or_true, Bool.true_or, Bool.false_or, Bool.or_false, Int.lt_irrefl]
          exact .mk ⟨rfl, trivial⟩
      · unfold tL18TallyNewestL2
        simp only [show ¬ ((a.length : Int) < (a.length : Int)) by omega, if_false]
        refine .mk ?_
        show decide _ = decide _
        rw [decide_eq_decide]
        exact ⟨fun ⟨h1, h2⟩ => ⟨hi, fun x hx => by rw [hai] at hx; cases hx; exact h1, h2⟩, fun ⟨_, h1, h2⟩ => ⟨h1 _ hai, h2⟩⟩
    have hin : ∀ (i : Nat) (hi : i < a.length) (h : Int), Loop (tL18TallyNewestL3 a (foldV a) (h, (i : Int))) (false, 0) = some ((List.range (foldV a).length).any fun k => ((foldV a)[k]?).any fun x => decide (x = a[i])) := by
      intro i hi h
      refine Loop_any (foldV a).length _ id (fun k b hk => ?_) (fun b => ?_)
      · unfold tL18TallyNewestL3
        have hw : IntKind.wrap .i64 ((k : Int) + 1) = ((k + 1 : Nat) : Int) := by rw [wrap64 (by omega) (by omega)]; omega
        simp only [show ((k : Int) < ((foldV a).length : Int)) by omega, if_true, ix_nat hk, ix_nat hi, acc_eq, hw, List.getElem?_eq_getElem hk, Option.any_some]
        cases b <;> simp
      · unfold tL18TallyNewestL3
        simp only [show ¬ (((foldV a).length : Int) < ((foldV a).length : Int)) by omega, if_false]
        rfl
    have hmain : Loop (tL18TallyNewestL4 a (foldV a)) (0, 0) = some (.inl (((foldV a).length : Nat) : Int)) := by
      rw [← foldV_count]
      refine Gives.eq (Gives.count (fun k => ((((List.range k).filter fun i => decide (nwV a a.length i)).length : Int), (k : Int))) a.length (fun _ => True) (by simp) trivial (fun k hk _ => ?_) (fun _ => ?_))
      · unfold tL18TallyNewestL4
        have hw : IntKind.wrap .i64 ((k : Int) + 1) = ((k + 1 : Nat) : Int) := by rw [wrap64 (by omega) (by omega)]; omega
        have hcl : ((List.range k).filter fun i => decide (nwV a a.length i)).length ≤ k := by
          have := List.length_filter_le (fun i => decide (nwV a a.length i)) (List.range k)
          simpa using this
        simp only [show ((k : Int) < (a.length : Int)) by omega, if_true, ix_nat hk, r18may_eq, bd_s, hnew k hk, hin k hk, hw]
        rw [any_range]
        rw [List.range_succ, List.filter_append]
        by_cases hn : nwV a a.length k
        · have hm := foldV_mem (List.getElem?_eq_getElem hk) hn
          have : ((foldV a).any fun x => decide (x = a[k])) = true := by rw [List.any_eq_true]; exact ⟨_, hm, by simp⟩
          rw [wrap64 (by omega) (by omega)]
          simp only [hn, decide_true, if_true, bd_s, this, Bool.not_true, Bool.false_eq_true, if_false, List.filter_cons, List.filter_nil, List.length_append, List.length_cons, List.length_nil]
          exact .mk ⟨by simp, trivial⟩
        · simp only [hn, decide_false, Bool.false_eq_true, if_false, bd_s, List.filter_cons, List.filter_nil, List.append_nil]
          exact .mk ⟨rfl, trivial⟩
      · unfold tL18TallyNewestL4
        simp only [show ¬ ((a.length : Int) < (a.length : Int)) by omega, if_false]
        exact .mk rfl
    rw [hmain]
    simp [evL18Alive]
end Dn.S
