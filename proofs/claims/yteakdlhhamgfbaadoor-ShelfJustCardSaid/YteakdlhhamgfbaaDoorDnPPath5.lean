import Derived.Test.YteakdlhhamgfbaaDoorDnPPath4
/-
  Paths: PathJoins, PathMade. Conditions: none.
-/
open Go Dn
set_option linter.unusedVariables false
set_option linter.unusedSimpArgs false
namespace Dn.S
theorem right_iff (q : List UInt8) : rightB q = true ↔ absB q = true ∧ q.length ≤ 100 ∧ (namesL q).length ≤ 8 ∧ (namesL q).all nameB = true := by
  unfold rightB
  simp only [Bool.and_eq_true, decide_eq_true_eq]
  exact ⟨fun h => ⟨h.1.1, h.1.2, h.2.1, h.2.2⟩, fun h => ⟨⟨h.1, h.2.1⟩, h.2.2.1, h.2.2.2⟩⟩
theorem nameB_len {x : List UInt8} (h : nameB x = true) : x.length ≤ 30 := by
  unfold nameB at h
  simp only [Bool.and_eq_true, decide_eq_true_eq] at h
  exact h.2.1
/-- the path of a path's first names is right -/
theorem right_take {p : List UInt8} (h : rightB p = true) (k : Nat) : rightB (madeL ((namesL p).take k)) = true ∧ namesL (madeL ((namesL p).take k)) = (namesL p).take k := by
  obtain ⟨h1, h2, h3, h4⟩ := rightB_len h
  have hall : ((namesL p).take k).all nameB = true := by
    rw [List.all_eq_true] at h4 ⊢
    exact fun x hx => h4 x (List.mem_of_mem_take hx)
  obtain ⟨g1, g2, _⟩ := names_made hall
  refine ⟨(right_iff _).2 ⟨g2, ?_, ?_, ?_⟩, g1⟩
  · unfold madeL
    split
    · simp
    · exact Nat.le_trans (flat_len h2 k) h1
  · rw [g1, List.length_take]; omega
  · rw [g1]; exact hall
/-- .. with the next one joined -/
theorem join_take {p : List UInt8} (h : rightB p = true) {k : Nat} (hk : k < (namesL p).length) :
    joinL (madeL ((namesL p).take k)) (namesL p)[k] = madeL ((namesL p).take (k + 1)) ∧ nameB (namesL p)[k] = true := by
  obtain ⟨h1, h2, h3, h4⟩ := rightB_len h
  have hx : nameB (namesL p)[k] = true := List.all_eq_true.1 h4 _ (List.getElem_mem hk)
  obtain ⟨r1, r2⟩ := right_take h k
  obtain ⟨g1, g2, g3, g4⟩ := join_names r1 hx
  rw [r2] at g3
  refine ⟨?_, hx⟩
  rw [g3, take_succ hk]
theorem made_len {p : List UInt8} (h : rightB p = true) (k : Nat) : (madeL ((namesL p).take k)).length ≤ 100 := (rightB_len (right_take h k).1).1
theorem name_le {p : List UInt8} (h : rightB p = true) {k : Nat} (hk : k < (namesL p).length) : ((namesL p)[k]).length ≤ 30 := nameB_len (join_take h hk).2
theorem step_ok {p : List UInt8} (h : rightB p = true) {k : Nat} (hk : k < (namesL p).length) :
    tPathJoin (madeL ((namesL p).take k)) (namesL p)[k] = some (madeL ((namesL p).take (k + 1)), 0) ∧ belowB (madeL ((namesL p).take k)) (madeL ((namesL p).take (k + 1))) = true := by
  obtain ⟨j1, j2⟩ := join_take h hk
  obtain ⟨r1, r2⟩ := right_take h k
  obtain ⟨s1, s2⟩ := right_take h (k + 1)
  have hl := made_len h k
  have hn := name_le h hk
  constructor
  · rw [join_eq _ _ (by omega) (by omega), j1, r1, j2, s1]; rfl
  · unfold belowB
    rw [r1, s1, r2, s2, take_succ hk, belowL_snoc]; rfl
theorem pathMade_all (p : List UInt8) : tL08PathMade p = some true := by
  unfold tL08PathMade
  by_cases hl : p.length ≤ 1000
  rotate_left
  · rw [if_pos (by omega), evL08Alive]; rfl
  rw [if_neg (by omega), names_eq, bd_s]
  cases h : rightB p with
  | false =>
    simp only [Bool.false_eq_true, if_false]
    rw [if_pos (by decide), evL08Alive]
    simp [bd_s, right_eq, h]
  | true =>
    obtain ⟨h1, h2, h3, h4⟩ := rightB_len h
    simp only [if_true]
    rw [if_neg (by decide)]
    have hloop : Loop (tL08PathMadeL1 (namesL p, 0)) (([47] : List UInt8), 0) = some (.inl p) := by
      refine Gives.eq (Gives.count (fun k => (madeL ((namesL p).take k), (k : Int))) (namesL p).length (fun _ => True) rfl trivial (fun k hk _ => ?_) (fun _ => ?_))
      · obtain ⟨t1, t2⟩ := step_ok h hk
        unfold tL08PathMadeL1
        dsimp only
        rw [if_pos (by omega), ix_nat hk, t1, bd_s, ix_nat hk]
        simp only [decide_true, Bool.not_true, Bool.false_eq_true, if_false, isName_eq, (join_take h hk).2, bd_s, below_eq, t2]
        rw [wrap64 (by omega) (by omega)]
        exact .mk ⟨rfl, trivial⟩
      · unfold tL08PathMadeL1
        dsimp only
        rw [if_neg (by omega), List.take_length, made_names h2]
        exact .mk rfl
    rw [hloop, bd_s, evL08Alive]
    simp only [bd_s, if_true, bd_id, Option.some.injEq, decide_eq_true_eq]
    omega
theorem pathJoins_all (a b : List UInt8) : tL08PathJoins a b = some true := by
  unfold tL08PathJoins
  by_cases hl : a.length ≤ 1000 ∧ b.length ≤ 1000
  rotate_left
  · have : (if (1000 : Int) < (a.length : Int) then some true else some (decide ((1000 : Int) < (b.length : Int)))) = some true := by
      by_cases h1 : a.length ≤ 1000
      · rw [if_neg (by omega), decide_eq_true (by omega)]
      · rw [if_pos (by omega)]
    rw [this, bd_s, if_pos rfl, evL08Alive]; rfl
  obtain ⟨hl1, hl2⟩ := hl
  rw [if_neg (by omega), decide_eq_false (by omega), bd_s, if_neg (by decide), names_eq, bd_s, parent_eq, bd_s, right_eq, bd_s]
  have last : bd (tPathJoin a b) (fun rA6 =>
       if !decide (rA6.2 = 0) then
       bd (
         bd (tL08Alive) fun rA7 =>
         if rA7 then
         if rA6.1 = ([] : List UInt8) then
         some (decide (rA6.2 = 13))
         else
         some false
         else
         some false : Option Bool) fun w4 =>
       some w4
       else
       bd (tPathParent rA6.1) fun rA8 =>
       bd (
         bd (tL08Alive) fun rA9 =>
         if rA9 then
         if rA8.2 = 0 then
         if rA8.1 = a then
         bd (tPathBelow a rA6.1) fun rA10 =>
         if rA10 then
         bd (tPathRight rA6.1) fun rA11 =>
         if rA11 then
         bd (tPathIsName b) fun rA12 =>
         some rA12
         else
         some false
         else
         some false
         else
         some false
         else
         some false
         else
         some false : Option Bool) fun w5 =>
       some w5) = some true := by
    rw [join_eq a b hl1 hl2, bd_s, evL08Alive]
    cases hc : rightB a && (nameB b && rightB (joinL a b)) with
    | false => simp [bd_s]
    | true =>
      simp only [Bool.and_eq_true] at hc
      obtain ⟨c1, c2, c3⟩ := hc
      obtain ⟨h1, h2, h3, h4⟩ := rightB_len c1
      obtain ⟨g1, g2, g3, g4⟩ := join_names c1 c2
      have hb : belowB a (joinL a b) = true := by unfold belowB; rw [c1, c3, g1, belowL_snoc]; rfl
      simp only [if_true, decide_true, Bool.not_true, Bool.false_eq_true, if_false, parent_eq, c3, g4, bd_s, g1, List.dropLast_concat, made_names h2, below_eq, hb, right_eq, isName_eq, c2, bd_id]
  cases h : rightB a with
  | false =>
    simp only [Bool.false_eq_true, if_false]
    rw [if_neg (by decide), if_neg (by decide), bd_s, if_neg (by decide), if_neg (by decide), bd_s]
    exact last
  | true =>
    obtain ⟨h1, h2, h3, h4⟩ := rightB_len h
    simp only [if_true]
    rw [if_neg (by decide)]
    by_cases hp : a = [47]
    · rw [if_pos hp]
      rw [if_neg (by decide), bd_s, if_neg (by decide), if_neg (by decide), bd_s]
      exact last
    · have hne : ¬ (namesL a).length = 0 := fun e => hp ((names_len h).1 e)
      rw [if_neg hp]
      rw [if_pos (by rfl), if_neg (by decide), decide_eq_false (by omega), bd_s, if_neg (by decide), if_pos (by rfl)]
      obtain ⟨k, hk⟩ : ∃ k, (namesL a).length = k + 1 := ⟨(namesL a).length - 1, by omega⟩
      have hkl : k < (namesL a).length := by omega
      rw [wrap64 (by omega) (by omega), show ((namesL a).length : Int) - 1 = (k : Int) by omega, ix_nat hkl]
      obtain ⟨t1, t2⟩ := step_ok h hkl
      have hd : (namesL a).dropLast = (namesL a).take k := by rw [List.dropLast_eq_take, hk]; rfl
      have ha : madeL ((namesL a).take (k + 1)) = a := by rw [← hk, List.take_length, made_names h2]
      rw [ha] at t1 t2
      have e5 := below_eq (madeL ((namesL a).take k)) a
      rw [t2] at e5
      have hin : (bd (tPathJoin (madeL (namesL a).dropLast) (namesL a)[k]) fun rA4 =>
          bd (
            if !decide (rA4.2 = 0) then
            some true
            else
            if !decide (rA4.1 = a) then
            some true
            else
            bd (tPathBelow (madeL (namesL a).dropLast) a) fun rA5 =>
            some (!rA5) : Option Bool) fun w3 =>
          if w3 then
          some (Sum.inl false)
          else
          some (Sum.inr ()) : Option (Bool ⊕ Unit)) = some (Sum.inr ()) := by
        rw [hd, t1, bd_s, e5]
        simp only [decide_true, Bool.not_true, Bool.false_eq_true, if_false, bd_s]
      rw [hin, bd_s]
      exact last
end Dn.S
