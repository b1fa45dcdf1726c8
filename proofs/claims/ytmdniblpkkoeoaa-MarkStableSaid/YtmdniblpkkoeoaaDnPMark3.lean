import Derived.Test.YtmdniblpkkoeoaaDnPMark2
/-
  Marks: laws. Conditions: none.
-/
open Go Dn
set_option linter.unusedVariables false
set_option linter.unusedSimpArgs false
namespace Dn.S
theorem sameYM_eq (a b : R26Marks) (hl : a.L.length < 2 ^ 60) : tR26Same a b = some (decide (a = b)) := by
  have hext : a = b ↔ a.S.F = b.S.F ∧ a.S.T = b.S.T ∧ a.Stable = b.Stable ∧ a.Sum = b.Sum ∧ a.L = b.L := by
    constructor
    · rintro rfl; exact ⟨rfl, rfl, rfl, rfl, rfl⟩
    · obtain ⟨⟨f, t⟩, l, s, h⟩ := a; obtain ⟨⟨f', t'⟩, l', s', h'⟩ := b
      simp only
      rintro ⟨rfl, rfl, rfl, rfl, rfl⟩; rfl
  unfold tR26Same
  by_cases h1 : a.S.F = b.S.F
  case neg => simp [hext, h1]
  by_cases h2 : a.S.T = b.S.T
  case neg => simp [hext, h1, h2]
  by_cases h3 : a.Stable = b.Stable
  case neg => simp [hext, h1, h2, h3]
  by_cases h4 : a.Sum = b.Sum
  case neg => simp [hext, h1, h2, h3, h4]
  by_cases h5 : a.L.length = b.L.length
  case neg =>
    have : ¬ a.L = b.L := fun h => h5 (by rw [h])
    simp [hext, h1, h2, h3, h4, this, show ¬ ((a.L.length : Int) = (b.L.length : Int)) by omega]
  have hloop : Loop (tR26SameL1 a b) 0 = some (if a.L = b.L then .inl () else .inr false) := by
    refine Loop_same h5 (fun k ha hb => ?_) ?_
    · unfold tR26SameL1
      simp only [show ((k : Int) < (a.L.length : Int)) by omega, if_true, ix_nat ha, ix_nat hb]
      rw [wrap64 (by omega) (by omega)]
      have : (a.L[k] = b.L[k]) ↔ (a.L[k].By = b.L[k].By ∧ a.L[k].Slot = b.L[k].Slot ∧ a.L[k].Sum = b.L[k].Sum) := by
        generalize a.L[k] = x; generalize b.L[k] = y
        cases x; cases y; simp
      by_cases g1 : a.L[k].By = b.L[k].By <;> by_cases g2 : a.L[k].Slot = b.L[k].Slot <;> by_cases g3 : a.L[k].Sum = b.L[k].Sum <;> simp [this, g1, g2, g3]
    · unfold tR26SameL1
      simp only [show ¬ ((a.L.length : Int) < (a.L.length : Int)) by omega, if_false]
  simp only [h1, h2, h3, h4, h5, decide_true, Bool.and_self, Bool.not_true, Bool.false_eq_true, if_false, bd_s, hloop]
  by_cases h6 : a.L = b.L <;> simp [hext, h1, h2, h3, h4, h6]
theorem sameM_eq (a b : MarkMarks) (hl : a.L.length < 2 ^ 60) : tMarkSame a b = some (decide (a = b)) := by
  have hext : a = b ↔ a.S.F = b.S.F ∧ a.S.T = b.S.T ∧ a.Stable = b.Stable ∧ a.Sum = b.Sum ∧ a.L = b.L := by
    constructor
    · rintro rfl; exact ⟨rfl, rfl, rfl, rfl, rfl⟩
    · obtain ⟨⟨f, t⟩, l, s, h⟩ := a; obtain ⟨⟨f', t'⟩, l', s', h'⟩ := b
      simp only
      rintro ⟨rfl, rfl, rfl, rfl, rfl⟩; rfl
  have heq : tSlicesEqualMarkMark a.L b.L = some (decide (a.L = b.L)) := by
    unfold tSlicesEqualMarkMark
    by_cases h5 : a.L.length = b.L.length
    case neg =>
      have : ¬ a.L = b.L := fun h => h5 (by rw [h])
      simp [this, show ¬ ((a.L.length : Int) = (b.L.length : Int)) by omega]
    have hloop : Loop (tSlicesEqualMarkMarkL1 a.L b.L) 0 = some (if a.L = b.L then .inl () else .inr false) := by
      refine Loop_same h5 (fun k ha hb => ?_) ?_
      · unfold tSlicesEqualMarkMarkL1
        simp only [show ((k : Int) < (a.L.length : Int)) by omega, if_true, ix_nat ha, ix_nat hb]
        rw [wrap64 (by omega) (by omega)]
        have : (a.L[k] = b.L[k]) ↔ (a.L[k].By = b.L[k].By ∧ a.L[k].Slot = b.L[k].Slot ∧ a.L[k].Sum = b.L[k].Sum) := by
          generalize a.L[k] = x; generalize b.L[k] = y
          cases x; cases y; simp
        by_cases g1 : a.L[k].By = b.L[k].By <;> by_cases g2 : a.L[k].Slot = b.L[k].Slot <;> by_cases g3 : a.L[k].Sum = b.L[k].Sum <;> simp [this, g1, g2, g3]
      · unfold tSlicesEqualMarkMarkL1
        simp only [show ¬ ((a.L.length : Int) < (a.L.length : Int)) by omega, if_false]
    simp only [h5, decide_true, Bool.not_true, Bool.false_eq_true, if_false, bd_s, hloop]
    by_cases h6 : a.L = b.L <;> simp [h6]
  unfold tMarkSame
  simp only [heq, bd_s]
  by_cases h1 : a.S.F = b.S.F <;> by_cases h2 : a.S.T = b.S.T <;> by_cases h3 : a.Stable = b.Stable <;> by_cases h4 : a.Sum = b.Sum <;> by_cases h6 : a.L = b.L <;> simp [hext, h1, h2, h3, h4, h6]
theorem plX_inj {x y : MarkMark} (h : plX x = plX y) : x = y := by cases x; cases y; simp_all [plX]
theorem plM_inj {a b : MarkMarks} : plM a = plM b ↔ a = b := by
  constructor
  · intro h
    have h1 : plS a.S = plS b.S := congrArg R26Marks.S h
    have h2 : a.Stable = b.Stable := congrArg R26Marks.Stable h
    have h3 : a.L.map plX = b.L.map plX := congrArg R26Marks.L h
    have h5 : a.Sum = b.Sum := congrArg R26Marks.Sum h
    have h4 : a.L = b.L := by
      rw [List.map_inj_right (fun x y => plX_inj)] at h3; exact h3
    have h6 : a.S.F = b.S.F := congrArg R07Size.F h1
    have h7 : a.S.T = b.S.T := congrArg R07Size.T h1
    obtain ⟨⟨f, t⟩, l, s, u⟩ := a; obtain ⟨⟨f', t'⟩, l', s', u'⟩ := b
    simp only at h2 h4 h5 h6 h7
    subst h2; subst h4; subst h5; subst h6; subst h7; rfl
  · rintro rfl; rfl
theorem guardM_eq (m : MarkMarks) : Gives (if (60 : Int) < (m.L.length : Int) then some true else bd (tL26Plain m) fun rA => bd (tR26Right rA) fun rA1 => some (!rA1)) fun b => b = false → RM m := by
  refine Gives.ite (fun _ => .mk (by simp)) fun h => ?_
  simp only [plainM_eq m (by omega), bd_s]
  exact Gives.bd (rightM_eq m (by omega)) fun b hb => .mk fun h => hb.1 (by simpa using h)
theorem hearM_len {m : MarkMarks} (h : RM m) (x : MarkMark) : (hearM m x).1.L.length ≤ 27 := by have := (h.hear x).len; omega
theorem trusted_eq {m : MarkMarks} (h : RM m) (slot : Int) (sum : Hash) : tMarkTrusted m slot sum = some (decide (m.S.F + 1 ≤ (m.L.countP (isSay slot sum) : Int))) := by
  have := h.len
  unfold tMarkTrusted
  rw [say_eq m (by omega), bd_s, sizeWeak_eq h.sz]; rfl
theorem trustedY_eq {m : MarkMarks} (h : RM m) (slot : Int) (sum : Hash) : tR26Trusted (plM m) slot sum = some (decide (m.S.F + 1 ≤ (m.L.countP (isSay slot sum) : Int))) := by
  have := h.len
  have := h.sz.f1; have := h.sz.f5
  unfold tR26Trusted
  rw [countY_eq m (by omega), bd_s]
  have : tR07Weak (plM m).S = some (m.S.F + 1) := by unfold tR07Weak plM plS; simp only; rw [wrap64 (by omega) (by omega)]
  rw [this]; rfl
theorem markTurns_all (m : MarkMarks) (x : MarkMark) (slot : Int) : tL26MarkTurns m x slot = some true := by
  refine Gives.eq ?_
  unfold tL26MarkTurns
  refine Gives.bd (guardM_eq m) fun b hb => ?_
  cases b with
  | true => simp only [if_true, evL26Alive, bd_s]; exact .mk rfl
  | false =>
    have hr := hb rfl
    have hl := hr.len
    have hhl := hearM_len hr x
    simp only [Bool.false_eq_true, if_false, plainM_eq m (by omega), bd_s, hear_eq hr, tL26One, show (⟨x.By, x.Slot, x.Sum⟩ : R26Mark) = plX x from rfl, hearY_eq hr, plainM_eq (hearM m x).1 (by omega), sameYM_eq (plM (hearM m x).1) _ (by show ((hearM m x).1.L.map plX).length < 2 ^ 60; rw [List.length_map]; omega),
      sameYM_eq (plM m) _ (by show (m.L.map plX).length < 2 ^ 60; rw [List.length_map]; omega), decide_true, if_true, trusted_eq hr, trustedY_eq hr, evL26Alive, behind_eq m (by omega), behindY_eq m (by omega)]
    exact .mk rfl
theorem newM_eq (s : SizeSize) : tMarkNew s = some (if SizeOK s then (⟨s, [], 0, Hash.zero⟩, 0) else (⟨⟨0, 0⟩, [], 0, Hash.zero⟩, 1)) := by
  unfold tMarkNew
  rw [sizeRight_eq, bd_s]
  by_cases h : SizeOK s <;> simp [h]
theorem newYM_eq (s : SizeSize) : tR26New (plS s) = some (plM (if SizeOK s then (⟨s, [], 0, Hash.zero⟩ : MarkMarks) else ⟨⟨0, 0⟩, [], 0, Hash.zero⟩), if SizeOK s then 0 else 1) := by
  unfold tR26New
  rw [sizeRightY_eq, bd_s]
  by_cases h : SizeOK s
  · simp [h, plM]
  · simp [h, plM, plS]
theorem rightMM_eq (m : MarkMarks) (hl : m.L.length ≤ 2 ^ 32) : Gives (tMarkRight m) fun b => b = true ↔ RM m := by
  unfold tMarkRight
  simp only [sizeRight_eq, bd_s]
  by_cases h1 : SizeOK m.S
  case neg =>
    simp only [h1, decide_false, Bool.not_false, if_true, bd_s]
    exact .mk ⟨(fun h => by cases h), fun h => absurd h.sz h1⟩
  simp only [h1, decide_true, Bool.not_true, Bool.false_eq_true, if_false]
  by_cases h2 : m.Stable < 0
  · simp only [h2, if_true, bd_s]
    exact .mk ⟨(fun h => by cases h), (fun h => by have := h.s0; omega)⟩
  by_cases h3 : (100000 : Int) < m.Stable
  · simp only [h2, h3, if_true, if_false, bd_s]
    exact .mk ⟨(fun h => by cases h), (fun h => by have := h.s1; omega)⟩
  by_cases h4 : m.Stable = 0 ∧ m.Sum ≠ Hash.zero
  · simp only [h2, h3, h4.1, if_true, if_false, h4.2, decide_false, Bool.not_false, bd_s]
    exact .mk ⟨(fun h => by cases h), (fun h => absurd (h.sum h4.1) h4.2)⟩
  have h5 : (if m.Stable = 0 then some (!decide (m.Sum = Hash.zero)) else some false) = some false := by
    by_cases g : m.Stable = 0
    · have : m.Sum = Hash.zero := Classical.byContradiction fun hh => h4 ⟨g, hh⟩
      simp [g, this]
    · simp [g]
  simp only [h2, h3, if_false, h5, bd_s, Bool.false_eq_true]
  refine Gives.bd (Loop_all m.L.length (fun k => ∃ hk : k < m.L.length, MayX m.S m.L[k] ∧ (0 < k → (m.L[k - 1]'(by omega)).By < m.L[k].By)) false (fun k hk _ => ?_) ?_) ?_
  · unfold tMarkRightL1
    simp only [show ((k : Int) < (m.L.length : Int)) by omega, if_true, ix_nat hk, may_eq h1, bd_s]
    rw [wrap64 (x := (k : Int) + 1) (by omega) (by omega), show (k : Int) + 1 = ((k + 1 : Nat) : Int) by omega]
    by_cases g1 : MayX m.S m.L[k]
    case neg =>
      simp only [g1, decide_false, Bool.not_false, if_true, bd_s]
      exact ⟨fun ⟨_, h⟩ => h.1.elim, fun _ => trivial⟩
    simp only [g1, decide_true, Bool.not_true, Bool.false_eq_true, if_false]
    by_cases g5 : k = 0
    · subst g5
      simp only [show ¬ ((0 : Int) < ((0 : Nat) : Int)) by omega, if_false, bd_s, Bool.false_eq_true]
      exact ⟨fun _ => trivial, fun h => absurd ⟨hk, trivial, fun h => by omega⟩ h⟩
    · have hk1 : k - 1 < m.L.length := by omega
      rw [wrap64 (x := (k : Int) - 1) (by omega) (by omega), show ((k : Int) - 1) = ((k - 1 : Nat) : Int) by omega]
      simp only [show ((0 : Int) < (k : Int)) by omega, if_true, ix_nat hk1, bd_s]
      by_cases g6 : m.L[k].By ≤ (m.L[k - 1]'(by omega)).By
      · simp only [g6, decide_true, if_true]
        exact ⟨fun ⟨_, h⟩ => by have := h.2 (by omega); omega, fun _ => trivial⟩
      · simp only [g6, decide_false, Bool.false_eq_true, if_false]
        exact ⟨fun _ => trivial, fun h => absurd ⟨hk, trivial, fun _ => by omega⟩ h⟩
  · unfold tMarkRightL1
    simp only [show ¬ ((m.L.length : Int) < (m.L.length : Int)) by omega, if_false]
  · rintro r (⟨rfl, hall⟩ | ⟨rfl, k, hk, hne⟩)
    · refine .mk ⟨fun _ => ⟨h1, by omega, by omega, fun g => Classical.byContradiction fun hh => h4 ⟨g, hh⟩, fun x hx => ?_, ?_⟩, fun _ => rfl⟩
      · obtain ⟨k, hk, rfl⟩ := List.mem_iff_getElem.1 hx
        exact (hall k hk).2.1
      · unfold IncK
        rw [List.pairwise_iff_getElem]
        intro i j hi hj hij
        induction j with
        | zero => omega
        | succ j ih =>
          obtain ⟨_, _, h⟩ := hall (j + 1) hj
          have h := h (by omega)
          simp only [Nat.add_sub_cancel] at h
          by_cases hij2 : i = j
          · subst hij2; exact h
          · have := ih (by omega) (by omega)
            simp only [bk] at this ⊢; omega
    · refine .mk ⟨(fun h => by cases h), fun h => absurd ⟨hk, h.all _ (List.getElem_mem hk), fun hk0 => h.inc.lt hk (by omega)⟩ hne⟩
theorem markMay_all (a b : MarkMarks) (s : SizeSize) : tL26MarkMay a b s = some true := by
  refine Gives.eq ?_
  unfold tL26MarkMay
  refine Gives.bd (P := fun x => x = false → a.L.length ≤ 60 ∧ b.L.length ≤ 60) ?_ fun x hb => ?_
  · refine Gives.ite (fun _ => .mk (by simp)) fun h => .mk fun hh => ?_
    have := of_decide_eq_false hh
    omega
  cases x with
  | true => simp only [if_true, evL26Alive, bd_s]; exact .mk rfl
  | false =>
    obtain ⟨ha, hb⟩ := hb rfl
    obtain ⟨r1, h1, g1⟩ := rightMM_eq a (by omega)
    obtain ⟨r2, h2, g2⟩ := rightM_eq a (by omega)
    have hrr : r1 = r2 := Bool.eq_iff_iff.2 (g1.trans g2.symm)
    have hss : decide (a = b) = decide (plM a = plM b) := decide_eq_decide.2 plM_inj.symm
    have e1 : tL26Plain (if SizeOK s then ((⟨s, [], 0, Hash.zero⟩ : MarkMarks), (0 : Int)) else (⟨⟨0, 0⟩, [], 0, Hash.zero⟩, 1)).1 = some (plM (if SizeOK s then (⟨s, [], 0, Hash.zero⟩ : MarkMarks) else ⟨⟨0, 0⟩, [], 0, Hash.zero⟩)) := by
      rw [plainM_eq _ (by split <;> simp)]
      split <;> rfl
    have e2 : (if SizeOK s then ((⟨s, [], 0, Hash.zero⟩ : MarkMarks), (0 : Int)) else (⟨⟨0, 0⟩, [], 0, Hash.zero⟩, 1)).2 = (if SizeOK s then (0 : Int) else 1) := by split <;> rfl
    simp only [Bool.false_eq_true, if_false, newM_eq, bd_s, tL26Sized, show (⟨s.F, s.T⟩ : R07Size) = plS s from rfl, newYM_eq, evL26Alive, if_true, e1, e2, h1, plainM_eq a (by omega), plainM_eq b (by omega), h2, hrr, sameM_eq a b (by omega), hss, sameYM_eq (plM a) _ (by show (a.L.map plX).length < 2 ^ 60; rw [List.length_map]; omega)]
    rw [sameYM_eq _ _ (by unfold plM; simp only [List.length_map]; split <;> simp), bd_s]
    simp only [decide_true, if_true]
    exact .mk rfl
theorem hearM_not {m : MarkMarks} {x : MarkMark} (h : newer m.L x = true) : hearM m x = (m, false) := by
  unfold hearM; rw [if_neg (by rw [h]; simp)]
theorem markNewest_ok (m : MarkMarks) (x : MarkMark) (less : Int) (h0 : 0 ≤ less) (h1 : less ≤ 255) : tL26MarkNewest m x less = some true := by
  refine Gives.eq ?_
  unfold tL26MarkNewest
  refine Gives.bd (guardM_eq m) fun b hb => ?_
  cases b with
  | true => simp only [if_true, evL26Alive, bd_s]; exact .mk rfl
  | false =>
    have hr := hb rfl
    have hl := hr.len
    have hr2 := hr.hear x
    have hhl := hearM_len hr x
    simp only [Bool.false_eq_true, if_false, hear_eq hr, bd_s, show isByte 9 = true by decide, if_true, hear_eq hr2, sameM_eq (hearM m x).1 m (by omega)]
    by_cases hs : (hearM m x).1 = m
    · simp only [hs, decide_true, if_true, evL26Alive, bd_s]; exact .mk rfl
    simp only [hs, decide_false, Bool.false_eq_true, if_false]
    have hc : MayX m.S x ∧ newer m.L x = false := Classical.byContradiction fun hn => hs (by unfold hearM; rw [if_neg hn])
    have hL : (hearM m x).1.L = putK bk m.L x := by
      unfold hearM; rw [if_pos hc]; split <;> rfl
    have hS : (hearM m x).1.S = m.S := by
      unfold hearM; rw [if_pos hc]; split <;> rfl
    have hxm : x ∈ (hearM m x).1.L := by rw [hL]; exact (putK_mem hr.inc).2 (.inl rfl)
    have hin : Loop (tL26MarkNewestL1 x (hearM m x)) (false, 0) = some true := by
      rw [Loop_any (hearM m x).1.L.length (fun k => ((hearM m x).1.L[k]?).any fun y => decide (y.By = x.By) && (decide (y.Slot = x.Slot) && decide (y.Sum = x.Sum))) id (fun k b hk => ?_) (fun b => ?_), id, any_range, List.any_eq_true.2 ⟨x, hxm, by simp⟩]
      · unfold tL26MarkNewestL1
        simp only [show ((k : Int) < ((hearM m x).1.L.length : Int)) by omega, if_true, ix_nat hk, List.getElem?_eq_getElem hk, Option.any_some]
        rw [wrap64 (by omega) (by omega)]
        cases b <;> simp
      · unfold tL26MarkNewestL1
        simp only [show ¬ (((hearM m x).1.L.length : Int) < ((hearM m x).1.L.length : Int)) by omega, if_false, id]
    have hsl : 1 ≤ x.Slot ∧ x.Slot ≤ 100000 := ⟨hc.1.2.2.1, hc.1.2.2.2⟩
    have hold : ∀ sum : Hash, hearM (hearM m x).1 ⟨x.By, IntKind.wrap .i64 (x.Slot - IntKind.wrap .i64 less), sum⟩ = ((hearM m x).1, false) := by
      intro sum
      have hnew : newer (hearM m x).1.L ⟨x.By, IntKind.wrap .i64 (x.Slot - IntKind.wrap .i64 less), sum⟩ = true := by
        unfold newer
        rw [List.any_eq_true]
        refine ⟨x, hxm, ?_⟩
        rw [wrap64 (x := less) (by omega) (by omega), wrap64 (by omega) (by omega)]
        simp only [decide_true, Bool.true_and, decide_eq_true_eq]
        omega
      exact hearM_not hnew
    have hbh : (1 : Int) ≤ ((hearM m x).1.L.countP (fun y => decide (x.Slot ≤ y.Slot)) : Int) := by
      have : 0 < (hearM m x).1.L.countP (fun y => decide (x.Slot ≤ y.Slot)) := List.countP_pos_iff.2 ⟨x, hxm, by simp⟩
      omega
    simp only [hin, bd_s, evL26Alive, if_true, hold, Bool.not_false, sameM_eq (hearM m x).1 _ (by omega), decide_true, behind_eq (hearM m x).1 (by omega), hbh]
    exact .mk rfl
end Dn.S
