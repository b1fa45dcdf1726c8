import Derived.Test.YtmdniblpkkoeoaaDnPMark
/-
  Marks: hearing one. Conditions: none.
-/
open Go Dn
set_option linter.unusedVariables false
set_option linter.unusedSimpArgs false
namespace Dn.S
def newer (L : List MarkMark) (x : MarkMark) : Bool := L.any fun y => decide (y.By = x.By) && decide (x.Slot ≤ y.Slot)
def hearM (m : MarkMarks) (x : MarkMark) : MarkMarks × Bool :=
  if MayX m.S x ∧ newer m.L x = false then
    if x.Slot ≤ m.Stable ∨ ((putK bk m.L x).countP (isSay x.Slot x.Sum) : Int) < 2 * m.S.F + m.S.T + 1 then (⟨m.S, putK bk m.L x, m.Stable, m.Sum⟩, false)
    else (⟨m.S, putK bk m.L x, x.Slot, x.Sum⟩, true)
  else (m, false)
theorem newer_eq {L : List MarkMark} (hs : IncK bk L) (x : MarkMark) : newer L x = (if h : hasK bk L x.By = true then decide (x.Slot ≤ (L[lbK bk L x.By]'(((hs.has x.By).1 h).1)).Slot) else false) := by
  unfold newer
  split
  · rename_i h
    obtain ⟨hl, he⟩ := (hs.has x.By).1 h
    rw [Bool.eq_iff_iff, List.any_eq_true, decide_eq_true_eq]
    constructor
    · rintro ⟨y, hy, hh⟩
      simp only [Bool.and_eq_true, decide_eq_true_eq] at hh
      obtain ⟨k, hk, rfl⟩ := List.mem_iff_getElem.1 hy
      have : k = lbK bk L x.By := by
        have e1 : bk L[k] = x.By := hh.1
        rcases Nat.lt_trichotomy k (lbK bk L x.By) with g | g | g
        · have := hs.lt hl g; omega
        · exact g
        · have := hs.lt hk g; omega
      subst this; exact hh.2
    · intro hh
      exact ⟨_, List.getElem_mem hl, by simp only [Bool.and_eq_true, decide_eq_true_eq]; exact ⟨he, hh⟩⟩
  · rename_i h
    rw [List.any_eq_false]
    intro y hy
    simp only [Bool.and_eq_true, decide_eq_true_eq, not_and]
    intro hb
    exact absurd (hasK_iff.2 ⟨y, hy, hb⟩) h
theorem hear_eq {m : MarkMarks} (h : RM m) (x : MarkMark) : tMarkHear m x = some (hearM m x) := by
  have hl := h.len
  have hb : tSlicesBinarySearchFuncMarkMarkInt m.L x.By tMarkHearF1 = some ((lbK bk m.L x.By : Int), hasK bk m.L x.By) :=
    bsearch_eq (key := bk) (cmp := tMarkHearF1) h.inc (by omega) (s := x.By) (fun a => by simp [tMarkHearF1, compareM])
  have hpl := putK_len (a := x) h.inc
  unfold tMarkHear hearM
  simp only [hb, bd_s, may_eq h.sz]
  rw [newer_eq h.inc]
  by_cases hm : MayX m.S x
  case neg => simp [hm]
  have fin : ∀ L', L' = putK bk m.L x → (bd (if x.Slot ≤ m.Stable then some true else bd (tMarkMarksSay (⟨(⟨m.S.F, m.S.T⟩ : SizeSize), L', m.Stable, m.Sum⟩ : MarkMarks) x.Slot x.Sum) fun rA4 => bd (tSizeProof (⟨m.S.F, m.S.T⟩ : SizeSize)) fun rA5 => some (decide (rA4 < rA5))) fun w2 =>
      if w2 = true then some ((⟨(⟨m.S.F, m.S.T⟩ : SizeSize), L', m.Stable, m.Sum⟩ : MarkMarks), false) else some ((⟨(⟨m.S.F, m.S.T⟩ : SizeSize), L', x.Slot, x.Sum⟩ : MarkMarks), true)) =
      some (if x.Slot ≤ m.Stable ∨ ((putK bk m.L x).countP (isSay x.Slot x.Sum) : Int) < 2 * m.S.F + m.S.T + 1 then (⟨m.S, putK bk m.L x, m.Stable, m.Sum⟩, false) else (⟨m.S, putK bk m.L x, x.Slot, x.Sum⟩, true)) := by
    rintro L' rfl
    have e1 : tSizeProof (⟨m.S.F, m.S.T⟩ : SizeSize) = some (2 * m.S.F + m.S.T + 1) := sizeProof_eq h.sz
    rw [say_eq _ (by show (putK bk m.L x).length < 2 ^ 60; omega), e1]
    simp only [bd_s]
    by_cases g1 : x.Slot ≤ m.Stable
    · simp [g1]
    · by_cases g2 : ((putK bk m.L x).countP (isSay x.Slot x.Sum) : Int) < 2 * m.S.F + m.S.T + 1 <;> simp [g1, g2]
  simp only [hm, decide_true, Bool.not_true, Bool.false_eq_true, if_false, true_and]
  by_cases hh : hasK bk m.L x.By = true
  · obtain ⟨hlt, he⟩ := (h.inc.has x.By).1 hh
    simp only [hh, if_true, dif_pos, ix_nat hlt, bd_s]
    by_cases g : x.Slot ≤ (m.L[lbK bk m.L x.By]).Slot
    · simp [g]
    · simp only [g, decide_false, Bool.false_eq_true, if_false, tClone_eq (by omega : m.L.length * 48 ≤ 2 ^ 46), bd_s, ix_nat hlt, Int.toNat_natCast, if_true]
      exact fin _ (putK_set (key := bk) (a := x) h.inc hh)
  · have hh : hasK bk m.L x.By = false := by simpa using hh
    simp only [hh, Bool.false_eq_true, if_false, dif_neg, not_false_eq_true, bd_s, tClone_eq (by omega : m.L.length * 48 ≤ 2 ^ 46)]
    have hi := tInsert_lb (key := bk) (L := m.L) (a := x) (by' := 48) (by omega)
    simp only [bk] at hi
    rw [show tInsert 48 m.L (lbK bk m.L x.By : Int) [x] = some (insK bk m.L x) from hi, bd_s]
    simp only [bd_s, if_true]
    exact fin _ (putK_ins (key := bk) (a := x) hh).symm
theorem RM.hear {m : MarkMarks} (h : RM m) (x : MarkMark) : RM (hearM m x).1 := by
  unfold hearM
  split
  · rename_i hc
    have hall : ∀ y ∈ putK bk m.L x, MayX m.S y := by
      intro y hy
      rcases (putK_mem h.inc).1 hy with rfl | ⟨hy, _⟩
      · exact hc.1
      · exact h.all y hy
    have hi := putK_inc (a := x) h.inc
    split
    · exact ⟨h.sz, h.s0, h.s1, h.sum, hall, hi⟩
    · rename_i hs
      have : 1 ≤ x.Slot ∧ x.Slot ≤ 100000 := ⟨hc.1.2.2.1, hc.1.2.2.2⟩
      exact ⟨h.sz, by show 0 ≤ x.Slot; omega, this.2, fun g => by have g : x.Slot = 0 := g; omega, hall, hi⟩
  · exact h
theorem put_map {L : List MarkMark} (x : MarkMark) : (putK bk L x).map plX = putK ck (L.map plX) (plX x) := by
  have h1 : ∀ s, lbK ck (L.map plX) s = lbK bk L s := fun s => by unfold lbK; rw [List.countP_map]; rfl
  have h2 : ∀ s, hasK ck (L.map plX) s = hasK bk L s := fun s => by unfold hasK; rw [List.any_map]; rfl
  unfold putK
  simp only [show ck (plX x) = bk x from rfl, h1, h2, List.map_append, List.map_take, List.map_cons, List.map_nil]
  split <;> rw [List.map_drop]
theorem newer_map (L : List MarkMark) (x : MarkMark) : ((L.map plX).any fun y => decide (y.By = x.By) && decide (x.Slot ≤ y.Slot)) = newer L x := by
  unfold newer; rw [List.any_map]; rfl
theorem incY {m : MarkMarks} (h : IncK bk m.L) : IncK ck (m.L.map plX) := by
  unfold IncK; rw [List.pairwise_map]; exact h
theorem hearY_eq {m : MarkMarks} (h : RM m) (x : MarkMark) : tR26Hear (plM m) (plX x) = some (plM (hearM m x).1, (hearM m x).2) := by
  have hl := h.len
  have hpl := putK_len (a := x) h.inc
  unfold tR26Hear hearM
  simp only [show (plM m).S = plS m.S from rfl, mayY_eq h.sz, bd_s]
  by_cases hm : MayX m.S x
  case neg => simp [hm]
  simp only [hm, decide_true, Bool.not_true, Bool.false_eq_true, if_false, true_and]
  have hloop : Gives (Loop (tR26HearL1 (plM m) (plX x)) (0, 0, ([] : List R26Mark), 0, Hash.zero, ([] : List R26Mark), false, 0)) fun r =>
      (newer m.L x = true ∧ r = .inr (m.S.F, m.S.T, m.L.map plX, m.Stable, m.Sum, false)) ∨ (newer m.L x = false ∧ r = .inl (0, 0, [], 0, Hash.zero, ((m.L.map plX).foldl (putS ck (plX x)) ([], false)).1, ((m.L.map plX).foldl (putS ck (plX x)) ([], false)).2)) := by
    refine Gives.count (fun k => (0, 0, ([] : List R26Mark), 0, Hash.zero, (((m.L.map plX).take k).foldl (putS ck (plX x)) ([], false)).1, (((m.L.map plX).take k).foldl (putS ck (plX x)) ([], false)).2, (k : Int))) m.L.length
      (fun k => (∀ j (hj : j < m.L.length), j < k → ¬ (m.L[j].By = x.By ∧ x.Slot ≤ m.L[j].Slot)) ∧ (((m.L.map plX).take k).foldl (putS ck (plX x)) ([], false)).1.length ≤ 2 * k) (by simp) ⟨fun j _ h => by omega, by simp⟩ (fun k hk hp => ?_) (fun hp => ?_)
    · unfold tR26HearL1
      have hkl : k < (m.L.map plX).length := by simpa using hk
      have hg : (m.L.map plX)[k] = plX m.L[k] := by simp
      obtain ⟨hp1, hp2⟩ := hp
      simp only [show (plM m).L = m.L.map plX from rfl, List.length_map, show ((k : Int) < (m.L.length : Int)) by omega, if_true, ix_nat hkl, hg]
      by_cases g : m.L[k].By = x.By ∧ x.Slot ≤ m.L[k].Slot
      · simp only [plX, g.1, if_true, g.2, decide_true, bd_s]
        refine .mk (.inl ⟨?_, rfl⟩)
        unfold newer
        rw [List.any_eq_true]
        exact ⟨_, List.getElem_mem hk, by simp [g.1, g.2]⟩
      · have e0 : (if (plX m.L[k]).By = (plX x).By then some (decide ((plX x).Slot ≤ (plX m.L[k]).Slot)) else some false) = some false := by
          by_cases g1 : m.L[k].By = x.By
          · have g2 : ¬ x.Slot ≤ m.L[k].Slot := fun hh => g ⟨g1, hh⟩
            simp [plX, g1, g2]
          · simp [plX, g1]
        rw [take_succ hkl, List.foldl_append, hg]
        generalize ((m.L.map plX).take k).foldl (putS ck (plX x)) ([], false) = st at hp2 ⊢
        obtain ⟨o, i⟩ := st
        simp only at hp2
        simp only [e0, bd_s, Bool.false_eq_true, if_false, List.foldl_cons, List.foldl_nil]
        rw [wrap64 (x := (k : Int) + 1) (by omega) (by omega), show (k : Int) + 1 = ((k + 1 : Nat) : Int) by omega]
        have hP : ∀ j (hj : j < m.L.length), j < k + 1 → ¬ (m.L[j].By = x.By ∧ x.Slot ≤ m.L[j].Slot) := fun j hj hjk => by
          by_cases hjk2 : j = k
          · subst hjk2; exact g
          · exact hp1 j hj (by omega)
        unfold putS
        simp only [show ck (plX x) = x.By from rfl, show ck (plX m.L[k]) = m.L[k].By from rfl, show (plX m.L[k]).By = m.L[k].By from rfl, show (plX x).By = x.By from rfl]
        have hlen : ∀ o' : List R26Mark, o'.length ≤ 2 * k + 1 → ((o'.length + ([plX m.L[k]] : List R26Mark).length) * 48 ≤ 2 ^ 46) ∧ ((o'.length + ([plX x] : List R26Mark).length) * 48 ≤ 2 ^ 46) := fun o' ho => by simp only [List.length_cons, List.length_nil]; omega
        by_cases c1 : i = false ∧ x.By ≤ m.L[k].By
        · obtain ⟨rfl, c1'⟩ := c1
          simp only [Bool.not_false, if_true, c1', decide_true, bd_s, true_and]
          rw [if_pos (hlen o (by omega)).2, bd_s]
          by_cases c2 : m.L[k].By = x.By
          · simp only [c2, decide_true, Bool.not_true, Bool.false_eq_true, if_false, bd_s, if_true]
            exact .mk ⟨rfl, hP, by simp; omega⟩
          · simp only [c2, decide_false, Bool.not_false, if_true, if_false]
            rw [if_pos (hlen _ (by simp; omega)).1, bd_s]
            exact .mk ⟨rfl, hP, by simp; omega⟩
        · have e1 : (if (!i) = true then some (decide (x.By ≤ m.L[k].By)) else some false) = some false := by
            cases i
            · have : ¬ x.By ≤ m.L[k].By := fun hh => c1 ⟨rfl, hh⟩
              simp [this]
            · rfl
          simp only [e1, bd_s, Bool.false_eq_true, if_false, c1]
          by_cases c2 : m.L[k].By = x.By
          · simp only [c2, decide_true, Bool.not_true, Bool.false_eq_true, if_false, bd_s, if_true]
            exact .mk ⟨rfl, hP, by omega⟩
          · simp only [c2, decide_false, Bool.not_false, if_true, if_false]
            rw [if_pos (hlen o (by omega)).1, bd_s]
            exact .mk ⟨rfl, hP, by simp; omega⟩
    · unfold tR26HearL1
      simp only [show (plM m).L = m.L.map plX from rfl, List.length_map, show ¬ ((m.L.length : Int) < (m.L.length : Int)) by omega, if_false]
      refine .mk (.inr ⟨?_, ?_⟩)
      · unfold newer
        rw [List.any_eq_false]
        intro y hy
        obtain ⟨k, hk, rfl⟩ := List.mem_iff_getElem.1 hy
        have := hp.1 k hk hk
        simpa using this
      · rw [List.take_of_length_le (by simp)]
  obtain ⟨r, hr, hq⟩ := hloop
  rw [hr]
  simp only [bd_s]
  rcases hq with ⟨hn, rfl⟩ | ⟨hn, rfl⟩
  · simp only [hn, Bool.true_eq_false, if_false]; rfl
  · have hput := putS_all (key := ck) (a := plX x) (incY h.inc)
    rw [← put_map] at hput
    have e2 : (if (!((m.L.map plX).foldl (putS ck (plX x)) ([], false)).2) = true then (if ((((m.L.map plX).foldl (putS ck (plX x)) ([], false)).1.length + ([plX x] : List R26Mark).length) * 48 ≤ 2 ^ 46) then some (((m.L.map plX).foldl (putS ck (plX x)) ([], false)).1 ++ ([plX x] : List R26Mark)) else none) else some ((m.L.map plX).foldl (putS ck (plX x)) ([], false)).1) = some ((putK bk m.L x).map plX) := by
      rw [← hput]
      have hlen : ((m.L.map plX).foldl (putS ck (plX x)) ([], false)).1.length ≤ m.L.length + 1 := by
        have : (if ((m.L.map plX).foldl (putS ck (plX x)) ([], false)).2 = true then ((m.L.map plX).foldl (putS ck (plX x)) ([], false)).1 else ((m.L.map plX).foldl (putS ck (plX x)) ([], false)).1 ++ [plX x]).length ≤ m.L.length + 1 := by rw [hput, List.length_map]; exact hpl
        split at this
        · exact this
        · simp only [List.length_append, List.length_cons, List.length_nil] at this; omega
      cases ((m.L.map plX).foldl (putS ck (plX x)) ([], false)).2
      · simp only [Bool.not_false, if_true, Bool.false_eq_true, if_false]
        rw [if_pos (by simp only [List.length_cons, List.length_nil]; omega)]
      · simp
    simp only [hn, if_true, e2, bd_s]
    have := h.sz.f1; have := h.sz.f5; have := h.sz.t0; have := h.sz.tf
    have e3 : tR07Proof (plS m.S) = some (2 * m.S.F + m.S.T + 1) := by
      unfold tR07Proof plS
      simp only
      rw [wrap64 (x := 2 * m.S.F) (by omega) (by omega), wrap64 (x := 2 * m.S.F + m.S.T) (by omega) (by omega), wrap64 (by omega) (by omega)]
    have e4 : tR26Count (⟨plS m.S, (putK bk m.L x).map plX, m.Stable, m.Sum⟩ : R26Marks) x.Slot x.Sum = some ((putK bk m.L x).countP (isSay x.Slot x.Sum) : Int) := countY_eq ⟨m.S, putK bk m.L x, m.Stable, m.Sum⟩ (by show (putK bk m.L x).length < 2 ^ 60; omega) _ _
    simp only [show (plX x).Slot = x.Slot from rfl, show (plX x).Sum = x.Sum from rfl, show (plM m).Stable = m.Stable from rfl, show (plM m).Sum = m.Sum from rfl, e3, e4, bd_s]
    by_cases g1 : x.Slot ≤ m.Stable
    · simp only [g1, if_true, bd_s, true_or]; rfl
    · by_cases g2 : ((putK bk m.L x).countP (isSay x.Slot x.Sum) : Int) < 2 * m.S.F + m.S.T + 1
      · simp only [g1, g2, if_true, if_false, bd_s, decide_true, false_or]; rfl
      · simp only [g1, g2, if_false, bd_s, decide_false, false_or, Bool.false_eq_true]; rfl
end Dn.S
