import Derived.Test.YteakdlhhamgfbaaDoorDnPPath3
/-
  Paths: below, ahead, joined; PathOrder, PathJoins, PathMade. Conditions: none.
-/
open Go Dn
set_option linter.unusedVariables false
set_option linter.unusedSimpArgs false
namespace Dn.S
/-! ### the order -/
theorem bl_irr (a : List UInt8) : Op.bytesLess a a = false := by
  induction a with
  | nil => rfl
  | cons x a ih => simp [Op.bytesLess, ih]
theorem bl_tri (a b : List UInt8) : Op.bytesLess a b = true ∨ a = b ∨ Op.bytesLess b a = true := by
  induction a generalizing b with
  | nil => cases b <;> simp [Op.bytesLess]
  | cons x a ih =>
    cases b with
    | nil => simp [Op.bytesLess]
    | cons y b =>
      simp only [Op.bytesLess, Bool.or_eq_true, decide_eq_true_eq, Bool.and_eq_true, beq_iff_eq, List.cons.injEq]
      rcases Nat.lt_trichotomy x.toNat y.toNat with h | h | h
      · exact .inl (.inl (UInt8.lt_iff_toNat_lt.2 h))
      · have hxy := UInt8.toNat_inj.1 h
        subst hxy
        rcases ih b with h | h | h
        · exact .inl (.inr ⟨rfl, h⟩)
        · exact .inr (.inl ⟨rfl, h⟩)
        · exact .inr (.inr (.inr ⟨rfl, h⟩))
      · exact .inr (.inr (.inl (UInt8.lt_iff_toNat_lt.2 h)))
theorem bl_trans {a b c : List UInt8} (h1 : Op.bytesLess a b = true) (h2 : Op.bytesLess b c = true) : Op.bytesLess a c = true := by
  induction a generalizing b c with
  | nil =>
    cases b with
    | nil => simp [Op.bytesLess] at h1
    | cons y b => cases c with
      | nil => simp [Op.bytesLess] at h2
      | cons z c => rfl
  | cons x a ih =>
    cases b with
    | nil => simp [Op.bytesLess] at h1
    | cons y b =>
      cases c with
      | nil => simp [Op.bytesLess] at h2
      | cons z c =>
        simp only [Op.bytesLess, Bool.or_eq_true, decide_eq_true_eq, Bool.and_eq_true, beq_iff_eq, UInt8.lt_iff_toNat_lt] at h1 h2 ⊢
        rcases h1 with h1 | ⟨rfl, h1⟩
        · rcases h2 with h2 | ⟨rfl, h2⟩
          · exact .inl (by omega)
          · exact .inl h1
        · rcases h2 with h2 | ⟨rfl, h2⟩
          · exact .inl h2
          · exact .inr ⟨rfl, ih h1 h2⟩
/-- names ahead of names -/
def ltL : List (List UInt8) → List (List UInt8) → Bool
  | [], [] => false
  | [], _ :: _ => true
  | _ :: _, [] => false
  | a :: x, b :: y => Op.bytesLess a b || (decide (a = b) && ltL x y)
theorem ltL_irr (a : List (List UInt8)) : ltL a a = false := by
  induction a with
  | nil => rfl
  | cons x a ih => simp [ltL, bl_irr, ih]
theorem ltL_tri (a b : List (List UInt8)) : ltL a b = true ∨ a = b ∨ ltL b a = true := by
  induction a generalizing b with
  | nil => cases b <;> simp [ltL]
  | cons x a ih =>
    cases b with
    | nil => simp [ltL]
    | cons y b =>
      simp only [ltL, Bool.or_eq_true, decide_eq_true_eq, Bool.and_eq_true, List.cons.injEq]
      rcases bl_tri x y with h | rfl | h
      · exact .inl (.inl h)
      · rcases ih b with h | h | h
        · exact .inl (.inr ⟨rfl, h⟩)
        · exact .inr (.inl ⟨rfl, h⟩)
        · exact .inr (.inr (.inr ⟨rfl, h⟩))
      · exact .inr (.inr (.inl h))
theorem ltL_trans {a b c : List (List UInt8)} (h1 : ltL a b = true) (h2 : ltL b c = true) : ltL a c = true := by
  induction a generalizing b c with
  | nil =>
    cases b with
    | nil => simp [ltL] at h1
    | cons y b => cases c with
      | nil => simp [ltL] at h2
      | cons z c => rfl
  | cons x a ih =>
    cases b with
    | nil => simp [ltL] at h1
    | cons y b =>
      cases c with
      | nil => simp [ltL] at h2
      | cons z c =>
        simp only [ltL, Bool.or_eq_true, decide_eq_true_eq, Bool.and_eq_true] at h1 h2 ⊢
        rcases h1 with h1 | ⟨rfl, h1⟩
        · rcases h2 with h2 | ⟨rfl, h2⟩
          · exact .inl (bl_trans h1 h2)
          · exact .inl h1
        · rcases h2 with h2 | ⟨rfl, h2⟩
          · exact .inl h2
          · exact .inr ⟨rfl, ih h1 h2⟩
theorem ltL_asym {a b : List (List UInt8)} (h : ltL a b = true) : ltL b a = false := by
  rw [Bool.eq_false_iff]
  intro h2
  have := ltL_trans h h2
  rw [ltL_irr] at this; cases this
theorem ltL_app (a x y : List (List UInt8)) : ltL (a ++ x) (a ++ y) = ltL x y := by
  induction a with
  | nil => rfl
  | cons z a ih => simp [ltL, bl_irr, ih]
/-- names of which the first ones are these -/
def belowL (a b : List (List UInt8)) : Bool := decide (a.length < b.length) && decide (a = b.take a.length)
theorem below_lt {a b : List (List UInt8)} (h : belowL a b = true) : ltL a b = true := by
  unfold belowL at h
  simp only [Bool.and_eq_true, decide_eq_true_eq] at h
  have hb : b = a ++ b.drop a.length := by
    have := List.take_append_drop a.length b
    rw [← h.2] at this; exact this.symm
  have hd : b.drop a.length ≠ [] := by
    intro e
    have := congrArg List.length e
    rw [List.length_drop] at this; simp at this; omega
  rw [hb]
  have := ltL_app a [] (b.drop a.length)
  rw [List.append_nil] at this
  rw [this]
  cases hq : b.drop a.length with
  | nil => exact absurd hq hd
  | cons => rfl
theorem between {a b c : List (List UInt8)} (h1 : ltL a b = true) (h2 : ltL b c = true) (h3 : belowL a c = true) : belowL a b = true := by
  induction a generalizing b c with
  | nil =>
    cases b with
    | nil => simp [ltL] at h1
    | cons y b => simp [belowL]
  | cons x a ih =>
    cases c with
    | nil => simp [belowL] at h3
    | cons z c =>
      cases b with
      | nil => simp [ltL] at h1
      | cons y b =>
        have h3' : x = z ∧ belowL a c = true := by
          simp only [belowL, List.length_cons, List.take_succ_cons, List.cons.injEq, Bool.and_eq_true, decide_eq_true_eq] at h3
          exact ⟨h3.2.1, by simp only [belowL, Bool.and_eq_true, decide_eq_true_eq]; exact ⟨by omega, h3.2.2⟩⟩
        obtain ⟨rfl, h3'⟩ := h3'
        simp only [ltL, Bool.or_eq_true, decide_eq_true_eq, Bool.and_eq_true] at h1 h2
        have hxy : x = y ∧ ltL a b = true ∧ ltL b c = true := by
          rcases h1 with h1 | ⟨rfl, h1⟩
          · rcases h2 with h2 | ⟨rfl, h2⟩
            · have := bl_trans h1 h2; rw [bl_irr] at this; cases this
            · rw [bl_irr] at h1; cases h1
          · rcases h2 with h2 | ⟨_, h2⟩
            · rw [bl_irr] at h2; cases h2
            · exact ⟨rfl, h1, h2⟩
        obtain ⟨rfl, g1, g2⟩ := hxy
        have := ih g1 g2 h3'
        simp only [belowL, List.length_cons, List.take_succ_cons, List.cons.injEq, Bool.and_eq_true, decide_eq_true_eq] at this ⊢
        exact ⟨by omega, trivial, this.2⟩
/-! ### what the functions yield -/
theorem cmp_eq (x y : List UInt8) : tCmpCompareString x y = some (if Op.bytesLess x y then -1 else if x = y then 0 else 1) := by
  unfold tCmpCompareString tCmpIsNaNString
  simp only [decide_true, Bool.not_true, bd_s, Bool.false_eq_true, if_false]
  by_cases h : Op.bytesLess x y = true
  · simp [h]
  · by_cases he : x = y
    · simp [he, bl_irr]
    · simp [h, he]
theorem compare_eq (a b : List (List UInt8)) (hl : a.length < 2 ^ 60) : ∃ n, tSlicesCompareString a b = some n ∧ decide (n < 0) = ltL a b := by
  obtain ⟨r, e, hr⟩ : ∃ r, Loop (tSlicesCompareStringL1 a b) 0 = some r ∧ (match r with | .inl () => ltL a b = decide (a.length < b.length) | .inr n => decide (n < 0) = ltL a b) := by
    refine Gives.count (fun k => (k : Int)) a.length (fun k => a.take k = b.take k ∧ k ≤ b.length) rfl ⟨rfl, by omega⟩ (fun k hk hp => ?_) (fun hp => ?_)
    · have hlt : ltL a b = ltL (a.drop k) (b.drop k) := by
        have := ltL_app (a.take k) (a.drop k) (b.drop k)
        rw [List.take_append_drop, hp.1, List.take_append_drop] at this
        exact this
      have hda : a.drop k = a[k] :: a.drop (k + 1) := List.drop_eq_getElem_cons hk
      unfold tSlicesCompareStringL1
      rw [if_pos (by omega), ix_nat hk]
      by_cases hb : b.length ≤ k
      · rw [if_pos (by omega)]
        refine .mk ?_
        show decide ((1 : Int) < 0) = ltL a b
        rw [hlt, hda, List.drop_eq_nil_of_le hb]; rfl
      · have hb : k < b.length := by omega
        have hdb : b.drop k = b[k] :: b.drop (k + 1) := List.drop_eq_getElem_cons hb
        rw [if_neg (by omega), ix_nat hb, cmp_eq, bd_s]
        rw [hda, hdb] at hlt
        simp only [ltL] at hlt
        by_cases h1 : Op.bytesLess a[k] b[k] = true
        · simp only [h1, if_true]
          refine .mk ?_
          show decide ((-1 : Int) < 0) = ltL a b
          rw [hlt, h1]; rfl
        · rw [Bool.not_eq_true] at h1
          by_cases h2 : a[k] = b[k]
          · have hc : (if Op.bytesLess a[k] b[k] = true then (-1 : Int) else if a[k] = b[k] then 0 else 1) = 0 := by rw [h1, if_neg (by decide), if_pos h2]
            rw [hc, if_neg (by decide)]
            rw [wrap64 (by omega) (by omega)]
            refine .mk ⟨by omega, ?_, by omega⟩
            rw [take_succ hk, take_succ hb, hp.1, h2]
          · simp only [h1, Bool.false_eq_true, if_false, h2]
            refine .mk ?_
            show decide ((1 : Int) < 0) = ltL a b
            rw [hlt, h1]; simp [h2]
    · unfold tSlicesCompareStringL1
      rw [if_neg (by omega)]
      refine .mk ?_
      show ltL a b = decide (a.length < b.length)
      have := ltL_app (a.take a.length) (a.drop a.length) (b.drop a.length)
      rw [List.take_append_drop, hp.1, List.take_append_drop, List.drop_length] at this
      rw [this]
      cases hd : b.drop a.length with
      | nil =>
        have := congrArg List.length hd
        rw [List.length_drop] at this
        symm; apply decide_eq_false; simp at this; omega
      | cons x y =>
        have := congrArg List.length hd
        rw [List.length_drop] at this
        symm; apply decide_eq_true; simp at this; omega
  unfold tSlicesCompareString
  rw [e, bd_s]
  cases r with
  | inl u =>
    dsimp only at hr ⊢
    rw [hr]
    by_cases h : a.length < b.length
    · rw [if_pos (by omega)]; exact ⟨_, rfl, by simp [h]⟩
    · rw [if_neg (by omega)]; exact ⟨_, rfl, by simp [h]⟩
  | inr n => exact ⟨n, rfl, hr⟩
theorem inner_eq' (p : List UInt8) : ∃ l, tPathInner p = some (l, rightB p) ∧ (rightB p = true → l = namesL p) := by
  rw [inner_eq]
  unfold rightB
  cases absB p && decide (p.length ≤ 100) with
  | false => exact ⟨_, rfl, fun h => by cases h⟩
  | true => exact ⟨_, rfl, fun _ => rfl⟩
def aheadB (p q : List UInt8) : Bool := rightB p && (rightB q && ltL (namesL p) (namesL q))
def belowB (p q : List UInt8) : Bool := rightB p && (rightB q && belowL (namesL p) (namesL q))
theorem ahead_eq (p q : List UInt8) : tPathAhead p q = some (aheadB p q) := by
  unfold tPathAhead
  obtain ⟨l, e1, h1⟩ := inner_eq' p
  obtain ⟨m, e2, h2⟩ := inner_eq' q
  rw [e1, bd_s, e2, bd_s, bd_id]
  unfold aheadB
  cases hp : rightB p with
  | false => rfl
  | true =>
    cases hq : rightB q with
    | false => rfl
    | true =>
      rw [h1 hp, h2 hq]
      obtain ⟨n, e3, h3⟩ := compare_eq (namesL p) (namesL q) (by have := (rightB_len hp).2.2.1; omega)
      simp only [if_true, e3, bd_s, h3, Bool.true_and]
theorem equalS_eq (a b : List (List UInt8)) (hl : a.length < 2 ^ 60) : tSlicesEqualString a b = some (decide (a = b)) := by
  unfold tSlicesEqualString
  by_cases he : a.length = b.length
  · have : decide ((a.length : Int) = (b.length : Int)) = true := decide_eq_true (by omega)
    rw [this]
    simp only [Bool.not_true, Bool.false_eq_true, if_false]
    rw [Loop_same he (fun k ha hb => by
      unfold tSlicesEqualStringL1
      rw [if_pos (by omega), ix_nat ha, ix_nat hb, wrap64 (by omega) (by omega)]
      by_cases hh : a[k] = b[k] <;> simp [hh]) (by
      unfold tSlicesEqualStringL1
      rw [if_neg (by omega)]), bd_s]
    by_cases hab : a = b <;> simp [hab]
  · have : decide ((a.length : Int) = (b.length : Int)) = false := decide_eq_false (by omega)
    rw [this]
    have hab : a ≠ b := fun e => he (by rw [e])
    simp [hab]
theorem below_eq (p q : List UInt8) : tPathBelow p q = some (belowB p q) := by
  unfold tPathBelow
  obtain ⟨l, e1, h1⟩ := inner_eq' p
  obtain ⟨m, e2, h2⟩ := inner_eq' q
  rw [e1, bd_s, e2, bd_s, bd_id]
  unfold belowB
  cases hp : rightB p with
  | false => rfl
  | true =>
    cases hq : rightB q with
    | false => rfl
    | true =>
      rw [h1 hp, h2 hq]
      simp only [if_true, Bool.true_and, belowL]
      by_cases hlt : (namesL p).length < (namesL q).length
      · rw [if_pos (by omega), if_pos ⟨by decide, by omega, by omega⟩]
        simp only [Int.toNat_zero, List.drop_zero, Int.toNat_natCast]
        rw [equalS_eq _ _ (by have := (rightB_len hp).2.2.1; omega), bd_s]
        simp [hlt]
      · rw [if_neg (by omega)]
        simp [hlt]
/-! ### paths and their names -/
theorem made_names {p : List UInt8} (h : absB p = true) : madeL (namesL p) = p := by
  by_cases hp : p = [47]
  · subst hp; rfl
  · obtain ⟨r, rfl⟩ := abs_cons h
    have hn : namesL (47 :: r) = splitL 47 r := by simp [namesL, hp]
    rw [hn, madeL, if_neg (splitL_ne r), join_split]
theorem names_inj {p q : List UInt8} (hp : absB p = true) (hq : absB q = true) (h : namesL p = namesL q) : p = q := by
  rw [← made_names hp, ← made_names hq, h]
theorem name_no {x : List UInt8} (h : nameB x = true) : (47 : UInt8) ∉ x ∧ x ≠ [] := by
  unfold nameB at h
  simp only [Bool.and_eq_true, decide_eq_true_eq] at h
  refine ⟨fun hm => ?_, h.1⟩
  have := List.all_eq_true.1 h.2.2 _ hm
  exact absurd this (by decide)
def joinL (p name : List UInt8) : List UInt8 := (if p.getLast? = some 47 then p.dropLast else p) ++ [47] ++ name
theorem drop_last {p : List UInt8} (hp : p ≠ []) : List.drop (p.length - 1) p = [p.getLast hp] := by
  have h := List.dropLast_concat_getLast hp
  have hl : p.dropLast.length = p.length - 1 := List.length_dropLast
  have : List.drop p.dropLast.length (p.dropLast ++ [p.getLast hp]) = [p.getLast hp] := List.drop_left
  rw [h, hl] at this
  exact this
theorem trimSuffix_eq (p : List UInt8) (hl : p.length < 2 ^ 60) : tStringsTrimSuffix p ([47] : List UInt8) = some (if p.getLast? = some 47 then p.dropLast else p) := by
  unfold tStringsTrimSuffix tStringsliteTrimSuffix tStringsliteHasSuffix
  simp only [bd_id]
  have h1 : ((([47] : List UInt8).length : Nat) : Int) = 1 := rfl
  rw [h1]
  by_cases hp : p = []
  · subst hp; rfl
  · have hpos : 1 ≤ p.length := by cases p with | nil => exact absurd rfl hp | cons => simp
    rw [if_pos (by omega), wrap64 (by omega) (by omega), if_pos ⟨by omega, by omega, by omega⟩, bd_s]
    have e1 : ((p.length : Int) - 1).toNat = p.length - 1 := by omega
    rw [e1, Int.toNat_natCast, List.take_length]
    have e2 : List.drop (p.length - 1) p = [p.getLast hp] := drop_last hp
    rw [e2]
    by_cases hx : p.getLast hp = 47
    · have hx2 : p.getLast? = some 47 := by rw [List.getLast?_eq_some_getLast hp, hx]
      rw [if_pos hx2, hx]
      simp only [decide_true, if_true]
      rw [if_pos ⟨by decide, by omega, by omega⟩]
      simp [List.dropLast_eq_take]
    · have hx2 : ¬ p.getLast? = some 47 := by rw [List.getLast?_eq_some_getLast hp]; simpa using hx
      rw [if_neg hx2]
      simp [hx]
theorem join_eq (p name : List UInt8) (h1 : p.length ≤ 1000) (h2 : name.length ≤ 1000) :
    tPathJoin p name = some (if rightB p && (nameB name && rightB (joinL p name)) then (joinL p name, 0) else ([], 13)) := by
  unfold tPathJoin
  rw [trimSuffix_eq p (by omega), bd_s]
  have hle : (if p.getLast? = some 47 then p.dropLast else p).length ≤ 1000 := by split <;> first | omega | (rw [List.length_dropLast]; omega)
  have hj : joinL p name = (if p.getLast? = some 47 then p.dropLast else p) ++ [47] ++ name := rfl
  rw [hj]
  generalize (if p.getLast? = some 47 then p.dropLast else p) = q at hle
  rw [if_pos (by simp only [List.length_cons, List.length_nil]; omega), if_pos (by simp only [List.length_append, List.length_cons, List.length_nil]; omega)]
  rw [right_eq, bd_s, isName_eq, right_eq]
  cases rightB p <;> cases nameB name <;> cases rightB (q ++ [47] ++ name) <;> rfl
theorem pathOrder_all (a b c : List UInt8) : tL08PathOrder a b c = some true := by
  have hal : bd tL08Alive (fun rA3 => some rA3) = some true := by rw [evL08Alive]; rfl
  unfold tL08PathOrder
  by_cases h1 : a.length ≤ 1000
  rotate_left
  · rw [if_pos (by omega), bd_s, if_pos rfl, hal]
  by_cases h2 : b.length ≤ 1000
  rotate_left
  · rw [if_neg (by omega), if_pos (by omega), bd_s, if_pos rfl, hal]
  by_cases h3 : c.length ≤ 1000
  rotate_left
  · rw [if_neg (by omega), if_neg (by omega), if_pos (by omega), bd_s, if_pos rfl, hal]
  rw [if_neg (by omega), if_neg (by omega), if_neg (by omega)]
  simp only [right_eq, bd_s, ahead_eq, below_eq, evL08Alive]
  cases ra : rightB a with
  | false => simp
  | true =>
  cases rb : rightB b with
  | false => simp
  | true =>
  cases rc : rightB c with
  | false => simp
  | true =>
  have e1 : aheadB a a = false := by simp [aheadB, ltL_irr]
  have eab : aheadB a b = ltL (namesL a) (namesL b) := by simp [aheadB, ra, rb]
  have eba : aheadB b a = ltL (namesL b) (namesL a) := by simp [aheadB, ra, rb]
  have ebc : aheadB b c = ltL (namesL b) (namesL c) := by simp [aheadB, rc, rb]
  have eac : aheadB a c = ltL (namesL a) (namesL c) := by simp [aheadB, ra, rc]
  have bab : belowB a b = belowL (namesL a) (namesL b) := by simp [belowB, ra, rb]
  have bac : belowB a c = belowL (namesL a) (namesL c) := by simp [belowB, ra, rc]
  rw [e1, eab, eba, ebc, eac, bab, bac]
  simp only [Bool.not_true, Bool.false_eq_true, if_false, bd_s, if_true]
  have htr : ltL (namesL a) (namesL b) = true → ltL (namesL b) (namesL c) = true → ltL (namesL a) (namesL c) = true := ltL_trans
  have hbt : ltL (namesL a) (namesL b) = true → ltL (namesL b) (namesL c) = true → belowL (namesL a) (namesL c) = true → belowL (namesL a) (namesL b) = true := between
  have hbl : belowL (namesL a) (namesL b) = true → ltL (namesL a) (namesL b) = true := below_lt
  have hne : a ≠ b → ltL (namesL a) (namesL b) ≠ ltL (namesL b) (namesL a) := by
    intro hne heq
    rcases ltL_tri (namesL a) (namesL b) with h | h | h
    · rw [h, ltL_asym h] at heq; cases heq
    · exact hne (names_inj (rightB_len ra).2.1 (rightB_len rb).2.1 h)
    · rw [h, ltL_asym h] at heq; cases heq
  generalize ltL (namesL a) (namesL b) = x1 at *
  generalize ltL (namesL b) (namesL a) = x2 at *
  generalize ltL (namesL b) (namesL c) = x3 at *
  generalize ltL (namesL a) (namesL c) = x4 at *
  generalize belowL (namesL a) (namesL b) = x5 at *
  generalize belowL (namesL a) (namesL c) = x6 at *
  by_cases hab : a = b
  · subst hab
    simp only [decide_true, Bool.not_true, Bool.false_eq_true, if_false]
    revert htr hbt hbl
    cases x1 <;> cases x3 <;> cases x4 <;> cases x5 <;> cases x6 <;> simp [bd_s]
  · have hne := hne hab
    simp only [hab, decide_false, Bool.not_false, if_true]
    revert htr hbt hbl hne
    cases x1 <;> cases x2 <;> cases x3 <;> cases x4 <;> cases x5 <;> cases x6 <;> simp [bd_s]
end Dn.S
