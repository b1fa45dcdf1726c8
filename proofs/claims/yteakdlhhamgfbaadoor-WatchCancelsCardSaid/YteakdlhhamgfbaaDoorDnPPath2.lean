import Derived.Test.YteakdlhhamgfbaaDoorDnPPath
/-
  Paths: their names. Conditions: none.
-/
open Go Dn
set_option linter.unusedVariables false
set_option linter.unusedSimpArgs false
namespace Dn.S
section
variable {c : UInt8}
theorem splitL_ne (l : List UInt8) : splitL c l ≠ [] := by
  cases l with
  | nil => simp [splitL]
  | cons x l =>
    simp only [splitL]
    split
    · simp
    · split <;> simp
theorem splitL_cons_eq (l : List UInt8) : splitL c (c :: l) = [] :: splitL c l := by simp [splitL]
theorem splitL_cons_ne {x : UInt8} (h : x ≠ c) (l : List UInt8) : ∃ p r, splitL c l = p :: r ∧ splitL c (x :: l) = (x :: p) :: r := by
  cases hs : splitL c l with
  | nil => exact absurd hs (splitL_ne l)
  | cons p r => exact ⟨p, r, rfl, by simp [splitL, h, hs]⟩
theorem join_split (l : List UInt8) : (splitL c l).flatMap (c :: ·) = c :: l := by
  induction l with
  | nil => rfl
  | cons x l ih =>
    by_cases h : x = c
    · subst h; rw [splitL_cons_eq, List.flatMap_cons, ih]; rfl
    · obtain ⟨p, r, h1, h2⟩ := splitL_cons_ne h l
      rw [h2, List.flatMap_cons]
      rw [h1, List.flatMap_cons] at ih
      simp only [List.cons_append, List.cons.injEq, true_and] at ih ⊢
      exact ih
theorem split_no (l : List UInt8) : ∀ x ∈ splitL c l, c ∉ x := by
  induction l with
  | nil => intro x hx; simp [splitL] at hx; subst hx; simp
  | cons y l ih =>
    intro x hx
    by_cases h : y = c
    · subst h
      rw [splitL_cons_eq] at hx
      rcases List.mem_cons.1 hx with rfl | hx
      · simp
      · exact ih x hx
    · obtain ⟨p, r, h1, h2⟩ := splitL_cons_ne h l
      rw [h2] at hx
      rw [h1] at ih
      rcases List.mem_cons.1 hx with rfl | hx
      · have := ih p (by simp)
        intro hm
        rcases List.mem_cons.1 hm with rfl | hm
        · exact h rfl
        · exact this hm
      · exact ih x (by simp [hx])
theorem splitL_len (l : List UInt8) : (splitL c l).length ≤ l.length + 1 := by
  induction l with
  | nil => simp [splitL]
  | cons x l ih =>
    by_cases h : x = c
    · subst h; rw [splitL_cons_eq]; simp; exact ih
    · obtain ⟨p, r, h1, h2⟩ := splitL_cons_ne h l
      rw [h2]; rw [h1] at ih; simp at ih ⊢; omega
theorem split_le (l : List UInt8) : ∀ x ∈ splitL c l, x.length ≤ l.length := by
  induction l with
  | nil => intro x hx; simp [splitL] at hx; subst hx; simp
  | cons y l ih =>
    intro x hx
    by_cases h : y = c
    · subst h
      rw [splitL_cons_eq] at hx
      rcases List.mem_cons.1 hx with rfl | hx
      · simp
      · have := ih x hx; simp; omega
    · obtain ⟨p, r, h1, h2⟩ := splitL_cons_ne h l
      rw [h2] at hx
      rw [h1] at ih
      rcases List.mem_cons.1 hx with rfl | hx
      · have := ih p (by simp); simp; omega
      · have := ih x (by simp [hx]); simp; omega
theorem split_snoc (l : List UInt8) (x : UInt8) : splitL c (l ++ [x]) = if x = c then splitL c l ++ [[]] else (splitL c l).dropLast ++ [(splitL c l).getLastD [] ++ [x]] := by
  induction l with
  | nil => by_cases h : x = c <;> simp [splitL, h]
  | cons y l ih =>
    rw [List.cons_append]
    by_cases hy : y = c
    · subst hy
      rw [splitL_cons_eq, splitL_cons_eq, ih]
      split
      · rfl
      · cases hs : splitL y l with
        | nil => exact absurd hs (splitL_ne l)
        | cons p r => simp [List.dropLast, List.getLastD, List.getLast?_cons_cons]
    · obtain ⟨p, r, h1, h2⟩ := splitL_cons_ne hy l
      obtain ⟨p', r', h3, h4⟩ := splitL_cons_ne hy (l ++ [x])
      rw [h4, h2]
      rw [ih, h1] at h3
      split
      · rename_i hx; rw [if_pos hx] at h3; simp only [List.cons_append, List.cons.injEq] at h3; rw [← h3.1, ← h3.2]; rfl
      · rename_i hx
        rw [if_neg hx] at h3
        cases r with
        | nil => simp at h3; rw [h3.2, ← h3.1]; rfl
        | cons q r =>
          simp only [List.dropLast_cons_cons, List.cons_append, List.cons.injEq] at h3
          rw [← h3.1, ← h3.2]
          simp [List.getLastD, List.getLast?_cons_cons]
end

theorem dropLast_getLastD {α : Type} {l : List (List α)} (h : l ≠ []) : l.dropLast ++ [l.getLastD []] = l := by
  rw [List.getLastD_eq_getLast?, List.getLast?_eq_some_getLast h]
  exact List.dropLast_concat_getLast h
/-- the names of what begins with a slash -/
def namesL (p : List UInt8) : List (List UInt8) := if p = [47] then [] else splitL 47 (p.drop 1)
def absB (p : List UInt8) : Bool := decide (p.head? = some 47)
/-- a path -/
def rightB (p : List UInt8) : Bool := (absB p && decide (p.length ≤ 100)) && (decide ((namesL p).length ≤ 8) && (namesL p).all nameB)

theorem cutPrefix_eq (p : List UInt8) : tStringsCutPrefix p ([47] : List UInt8) = some (if absB p then (p.drop 1, true) else (p, false)) := by
  unfold tStringsCutPrefix tStringsliteCutPrefix tStringsliteHasPrefix
  simp only [bd_id]
  cases p with
  | nil => simp [absB, bd]
  | cons x r =>
    have e1 : (([47] : List UInt8).length : Int) ≤ ((x :: r).length : Int) := by simp; omega
    rw [if_pos e1, if_pos ⟨by decide, by decide, e1⟩, bd_s]
    by_cases hx : x = 47
    · subst hx
      have e2 : decide (List.drop (Int.toNat 0) (List.take (Int.toNat (([47] : List UInt8).length : Int)) (47 :: r)) = ([47] : List UInt8)) = true := by simp
      rw [e2]
      simp only [Bool.not_true, Bool.false_eq_true, if_false]
      rw [if_pos ⟨by decide, e1, Int.le_refl _⟩, bd_s]
      simp [absB]
    · have e2 : decide (List.drop (Int.toNat 0) (List.take (Int.toNat (([47] : List UInt8).length : Int)) (x :: r)) = ([47] : List UInt8)) = false := by simp [hx]
      rw [e2]
      simp [absB, hx, bd_s]
theorem innerF1_eq (s : List UInt8) : tPathInnerF1 s = some (!nameB s) := by
  unfold tPathInnerF1; rw [isName_eq]; rfl
theorem containsS_eq {l : List (List UInt8)} {f : List UInt8 → Option Bool} {q : List UInt8 → Bool} (hf : ∀ s, f s = some (q s)) (hl : l.length < 2 ^ 60) : tSlicesContainsFuncString l f = some (l.any q) := by
  obtain ⟨r, e, hr⟩ : ∃ r, Loop (tSlicesIndexFuncStringL1 l f) 0 = some r ∧ ((r = .inl () ∧ l.any q = false) ∨ ((∃ k : Nat, r = .inr (k : Int)) ∧ l.any q = true)) := by
    refine Gives.count (fun k => (k : Int)) l.length (fun k => (l.take k).any q = false) rfl rfl (fun k hk hp => ?_) (fun hp => ?_)
    · unfold tSlicesIndexFuncStringL1
      rw [if_pos (by omega), ix_nat hk, hf, bd_s]
      cases hq : q l[k] with
      | true =>
        simp only [if_true]
        exact .mk (.inr ⟨⟨k, rfl⟩, List.any_eq_true.2 ⟨_, List.getElem_mem hk, hq⟩⟩)
      | false =>
        simp only [Bool.false_eq_true, if_false]
        rw [wrap64 (by omega) (by omega)]
        refine .mk ⟨by omega, ?_⟩
        rw [take_succ hk, List.any_append, hp]; simp [hq]
    · unfold tSlicesIndexFuncStringL1
      rw [if_neg (by omega)]
      rw [List.take_length] at hp
      exact .mk (.inl ⟨rfl, hp⟩)
  unfold tSlicesContainsFuncString tSlicesIndexFuncString
  rw [e]
  rcases hr with ⟨rfl, h⟩ | ⟨⟨k, rfl⟩, h⟩ <;> simp only [bd_s, h]
  · rfl
  · simp
theorem any_not (l : List (List UInt8)) : (!l.any fun s => !nameB s) = l.all nameB := by
  induction l with
  | nil => rfl
  | cons a l ih => simp only [List.any_cons, List.all_cons, Bool.not_or, Bool.not_not, ih]
theorem inner_eq (p : List UInt8) : tPathInner p = some (if absB p && decide (p.length ≤ 100) then (namesL p, decide ((namesL p).length ≤ 8) && (namesL p).all nameB) else ([], false)) := by
  unfold tPathInner
  rw [cutPrefix_eq, bd_s]
  cases ha : absB p with
  | false => simp [bd_s]
  | true =>
    simp only [if_true, Bool.not_true, Bool.false_eq_true, if_false, bd_s, Bool.true_and]
    by_cases hl : p.length ≤ 100
    · have e1 : decide ((100 : Int) < (p.length : Int)) = false := decide_eq_false (by omega)
      rw [e1]
      simp only [Bool.false_eq_true, if_false, hl, decide_true, if_true]
      cases p with
      | nil => simp [absB] at ha
      | cons x r =>
        have hx : x = 47 := by simpa [absB] using ha
        subst hx
        simp only [List.drop_succ_cons, List.drop_zero, namesL]
        by_cases hr : r = []
        · subst hr; simp
        · have hr' : ¬ (47 :: r : List UInt8) = [47] := by simp [hr]
          rw [if_neg hr, if_neg hr']
          have hlen := splitL_len (c := 47) r
          have hl' : r.length ≤ 99 := by simpa using hl
          unfold tSplit
          rw [Nat.ble_eq_true_of_le (by omega : r.length ≤ 4294967280)]
          simp only [cond_true, bd_s]
          by_cases h8 : (splitL 47 r).length ≤ 8
          · rw [if_pos (by omega), containsS_eq innerF1_eq (by omega)]
            simp only [bd_s, any_not, h8, decide_true, Bool.true_and]
          · rw [if_neg (by omega)]
            simp only [bd_s, h8, decide_false, Bool.false_and]
    · have e1 : decide ((100 : Int) < (p.length : Int)) = true := decide_eq_true (by omega)
      rw [e1]
      simp [hl]
theorem right_eq (p : List UInt8) : tPathRight p = some (rightB p) := by
  unfold tPathRight
  rw [inner_eq, bd_s]
  unfold rightB
  split
  · rename_i h; rw [h]; rfl
  · rename_i h; rw [Bool.not_eq_true] at h; rw [h]; rfl
theorem names_eq (p : List UInt8) : tPathNames p = some (if rightB p then (namesL p, 0) else ([], 13)) := by
  unfold tPathNames
  rw [inner_eq, bd_s]
  unfold rightB
  cases absB p && decide (p.length ≤ 100) with
  | false => simp
  | true =>
    simp only [if_true, Bool.true_and]
    cases decide ((namesL p).length ≤ 8) && (namesL p).all nameB <;> simp
theorem bysT_one {R : Type} (b : UInt8) (K : List UInt8 → Option R) : bysT [(b.toNat : Int)] K = K [b] := by
  unfold bysT
  simp [isByte]
theorem r08cut_eq (p : List UInt8) (hl : p.length ≤ 1000) : tR08Cut p = some (if absB p then namesL p else [], absB p) := by
  unfold tR08Cut
  cases p with
  | nil => simp [absB, bd_s]
  | cons x r =>
    have hne : ¬ (((x :: r).length : Int) = 0) := by simp; omega
    have hlt : (0 : Int) < ((x :: r).length : Int) := by simp
    rw [if_neg hne, if_pos ⟨by decide, hlt⟩, bd_s]
    have hx0 : ((x :: r : List UInt8).getD (Int.toNat 0) 0) = x := rfl
    rw [hx0]
    by_cases hx : x = 47
    rotate_left
    · have hx' : ¬ ((x.toNat : Int) = 47) := by
        intro e; apply hx; apply UInt8.toNat_inj.1
        show x.toNat = 47
        omega
      simp [hx', absB, hx]
    subst hx
    have e0 : (!decide ((((47 : UInt8).toNat : Nat) : Int) = 47)) = false := by decide
    rw [e0]
    simp only [Bool.false_eq_true, if_false]
    have hab : absB (47 :: r) = true := by simp [absB]
    rw [hab]
    simp only [if_true, namesL]
    by_cases hr : r = []
    · subst hr; simp
    have hr' : ¬ (47 :: r : List UInt8) = [47] := by simp [hr]
    rw [if_neg hr', if_neg hr']
    have hl' : r.length ≤ 999 := by simpa using hl
    have hloop : Loop (tR08CutL1 (47 :: r)) (([] : List (List UInt8)), ([] : List UInt8), 1) = some ((splitL 47 r).dropLast, (splitL 47 r).getLastD []) := by
      refine Gives.eq (Gives.count (fun k => ((splitL 47 (r.take k)).dropLast, (splitL 47 (r.take k)).getLastD [], ((k + 1 : Nat) : Int))) r.length (fun _ => True) rfl trivial (fun k hk _ => ?_) (fun _ => ?_))
      · unfold tR08CutL1
        dsimp only
        have hb1 : (0 : Int) ≤ ((k + 1 : Nat) : Int) ∧ ((k + 1 : Nat) : Int) < (((47 : UInt8) :: r).length : Int) := by simp; omega
        rw [if_pos hb1.2, if_pos hb1]
        have hget : ((47 :: r : List UInt8).getD (Int.toNat ((k + 1 : Nat) : Int)) 0) = r[k] := by
          rw [Int.toNat_natCast, List.getD_eq_getElem?_getD, List.getElem?_cons_succ, List.getElem?_eq_getElem hk]; rfl
        rw [hget, wrap64 (by omega) (by omega)]
        have hsn := split_snoc (c := 47) (r.take k) r[k]
        rw [← take_succ hk] at hsn
        have hlen1 := splitL_len (c := 47) (r.take k)
        have hlt1 : (r.take k).length ≤ 999 := by rw [List.length_take]; omega
        have hsne := splitL_ne (c := 47) (r.take k)
        have hdl : (splitL 47 (r.take k)).dropLast ++ [(splitL 47 (r.take k)).getLastD []] = splitL 47 (r.take k) := by
          exact dropLast_getLastD hsne
        by_cases hc : r[k] = 47
        · have hc' : ((r[k].toNat : Nat) : Int) = 47 := by rw [hc]; rfl
          rw [if_pos hc', if_pos (by simp only [List.length_dropLast, List.length_cons, List.length_nil]; omega), bd_s]
          rw [if_pos hc] at hsn
          refine .mk ⟨?_, trivial⟩
          rw [hdl, hsn]
          simp [List.getLastD_eq_getLast?]
        · have hc' : ¬ ((r[k].toNat : Nat) : Int) = 47 := by
            intro e; apply hc; apply UInt8.toNat_inj.1
            show r[k].toNat = 47
            omega
          have hle : ((splitL 47 (r.take k)).getLastD []).length ≤ 999 := by
            have := split_le (c := 47) (r.take k) ((splitL 47 (r.take k)).getLastD []) (by rw [← hdl]; simp)
            omega
          rw [if_neg hc', if_pos hb1, bysT_one, if_pos (by simp only [List.length_cons, List.length_nil]; omega), bd_s]
          rw [if_neg hc] at hsn
          refine .mk ⟨?_, trivial⟩
          rw [hsn]
          simp [List.getLastD_eq_getLast?]
      · unfold tR08CutL1
        dsimp only
        rw [if_neg (by simp), List.take_length]
        exact .mk rfl
    rw [hloop, bd_s]
    have hlen1 := splitL_len (c := 47) r
    rw [if_pos (by simp only [List.length_dropLast, List.length_cons, List.length_nil]; omega)]
    have hdl : (splitL 47 r).dropLast ++ [(splitL 47 r).getLastD []] = splitL 47 r := by
      exact dropLast_getLastD (splitL_ne r)
    rw [hdl]
    rfl
end Dn.S
