import Derived.Test.YtmdniblpkkoeoaaDnPWindow2
/-
  Windows: the document's functions. Conditions: none.
-/
open Go Dn
set_option linter.unusedVariables false
set_option linter.unusedSimpArgs false
namespace Dn.S
theorem hasY_eq (a : R25Window) (s : Int) (hl : a.L.length < 2 ^ 60) : tR25Has a s = some (match a.L.find? fun e => decide (e.Slot = s) with | some e => (e.Value, true) | none => ([], false)) := by
  refine Gives.eq ?_
  unfold tR25Has
  refine Gives.bd (P := fun r => match a.L.find? fun e => decide (e.Slot = s) with | some e => r = .inr (e.Value, true) | none => r = .inl ()) ?_ ?_
  · refine Gives.count (fun k => (k : Int)) a.L.length (fun k => (a.L.find? fun e => decide (e.Slot = s)) = (a.L.drop k).find? fun e => decide (e.Slot = s)) rfl (by simp) (fun k hk hp => ?_) (fun hp => ?_)
    · unfold tR25HasL1
      simp only [show ((k : Int) < (a.L.length : Int)) by omega, if_true, ix_nat hk]
      rw [List.drop_eq_getElem_cons hk, List.find?_cons] at hp
      by_cases he : a.L[k].Slot = s
      · simp only [he, decide_true] at hp
        simp only [he, if_true, hp]
        exact .mk rfl
      · simp only [he, decide_false] at hp
        simp only [he, if_false]
        rw [wrap64 (by omega) (by omega)]
        exact .mk ⟨by omega, hp⟩
    · unfold tR25HasL1
      simp only [show ¬ ((a.L.length : Int) < (a.L.length : Int)) by omega, if_false]
      rw [List.drop_length] at hp
      simp only [hp, List.find?_nil]
      exact .mk rfl
  · intro r hr
    cases hf : a.L.find? fun e => decide (e.Slot = s) with
    | some e => simp only [hf] at hr; subst hr; exact .mk rfl
    | none => simp only [hf] at hr; subst hr; exact .mk rfl
theorem find_map {α β : Type} {f : α → β} {key : α → Int} {key' : β → Int} (h : ∀ x, key' (f x) = key x) (L : List α) (s : Int) : ((L.map f).find? fun e => decide (key' e = s)) = (L.find? fun e => decide (key e = s)).map f := by
  rw [List.find?_map]
  congr 2
  funext x
  simp [h]
theorem RW.has {w : WindowWindow} (h : RW w) (s : Int) : tR25Has (plW w) s = some (match w.L.find? fun e => decide (e.Slot = s) with | some e => (e.Value, true) | none => ([], false)) := by
  have hl := h.len16
  rw [hasY_eq (plW w) s (by simp only [plW, List.length_map]; omega)]
  have := find_map (f := plE) (key := wk) (key' := rk) (fun _ => rfl) w.L s
  simp only [wk, rk] at this
  simp only [plW, this]
  cases w.L.find? fun e => decide (e.Slot = s) <;> rfl
/-- those of an ordered list below a number, and below the next -/
theorem below_succ {α : Type} {key : α → Int} {L : List α} (h : IncK key L) (n : Int) : (L.filter fun e => decide (key e < n + 1)) = (L.filter fun e => decide (key e < n)) ++ (match L.find? fun e => decide (key e = n) with | some e => [e] | none => []) := by
  induction L with
  | nil => rfl
  | cons a l ih =>
    have h' := List.pairwise_cons.1 h
    have ih := ih h'.2
    rw [List.filter_cons, List.filter_cons, List.find?_cons]
    by_cases h1 : key a < n
    · simp only [h1, decide_true, show key a < n + 1 by omega, if_true, show ¬ key a = n by omega, decide_false, ih]
      rfl
    · by_cases h2 : key a = n
      · have e1 : (l.filter fun e => decide (key e < n + 1)) = [] := by
          rw [List.filter_eq_nil_iff]
          intro x hx
          have := h'.1 x hx
          simp; omega
        have e2 : (l.filter fun e => decide (key e < n)) = [] := by
          rw [List.filter_eq_nil_iff]
          intro x hx
          have := h'.1 x hx
          simp; omega
        simp [h2, e1, e2, show n < n + 1 by omega]
      · have hgt : n < key a := by omega
        have e1 : (l.filter fun e => decide (key e < n + 1)) = [] := by
          rw [List.filter_eq_nil_iff]
          intro x hx
          have := h'.1 x hx
          simp; omega
        have e2 : (l.filter fun e => decide (key e < n)) = [] := by
          rw [List.filter_eq_nil_iff]
          intro x hx
          have := h'.1 x hx
          simp; omega
        have e3 : (l.find? fun e => decide (key e = n)) = none := by
          rw [List.find?_eq_none]
          intro x hx
          have := h'.1 x hx
          simp; omega
        simp [h1, h2, e1, e2, e3, show ¬ key a < n + 1 by omega]
theorem take_lb {α : Type} {key : α → Int} {L : List α} (h : IncK key L) (s : Int) : (L.filter fun e => decide (key e < s)) = L.take (lbK key L s) := by
  obtain ⟨h1, h2⟩ := h.lb s
  have e1 : ((L.take (lbK key L s)).filter fun e => decide (key e < s)) = L.take (lbK key L s) := by
    rw [List.filter_eq_self]
    intro x hx
    obtain ⟨k, hk, rfl⟩ := List.mem_iff_getElem.1 hx
    rw [List.length_take] at hk
    rw [List.getElem_take]
    exact decide_eq_true (h1 k (by omega) (by omega))
  have e2 : ((L.drop (lbK key L s)).filter fun e => decide (key e < s)) = [] := by
    rw [List.filter_eq_nil_iff]
    intro x hx
    obtain ⟨k, hk, rfl⟩ := List.mem_iff_getElem.1 hx
    rw [List.length_drop] at hk
    rw [List.getElem_drop]
    have := h2 (lbK key L s + k) (by omega) (by omega)
    simp; omega
  have : L = L.take (lbK key L s) ++ L.drop (lbK key L s) := (List.take_append_drop _ _).symm
  rw [this, List.filter_append, List.take_append_drop, e1, e2, List.append_nil]
theorem inc_ins {α : Type} {key : α → Int} {L : List α} (h : IncK key L) (a : α) (hn : hasK key L (key a) = false) : IncK key (insK key L a) := by
  obtain ⟨h1, h2⟩ := h.lb (key a)
  unfold insK IncK
  rw [List.pairwise_append, List.pairwise_append]
  have ht : ∀ x ∈ L.take (lbK key L (key a)), key x < key a := by
    intro x hx
    obtain ⟨k, hk, rfl⟩ := List.mem_iff_getElem.1 hx
    rw [List.length_take] at hk
    rw [List.getElem_take]
    exact h1 k (by omega) (by omega)
  have hd : ∀ x ∈ L.drop (lbK key L (key a)), key a < key x := by
    intro x hx
    obtain ⟨k, hk, rfl⟩ := List.mem_iff_getElem.1 hx
    rw [List.length_drop] at hk
    rw [List.getElem_drop]
    have g := h2 (lbK key L (key a) + k) (by omega) (by omega)
    have hne : key L[lbK key L (key a) + k] ≠ key a := by
      intro he
      have : hasK key L (key a) = true := hasK_iff.2 ⟨_, List.getElem_mem _, he⟩
      rw [hn] at this; cases this
    omega
  refine ⟨⟨h.sublist (List.take_sublist _ _), List.pairwise_singleton _ _, fun x hx y hy => ?_⟩, h.sublist (List.drop_sublist _ _), fun x hx y hy => ?_⟩
  · simp only [List.mem_singleton] at hy; subst hy; exact ht x hx
  · have hy := hd y hy
    rcases List.mem_append.1 hx with hx | hx
    · have := ht x hx; omega
    · simp only [List.mem_singleton] at hx; subst hx; exact hy
theorem mem_ins {α : Type} {key : α → Int} {L : List α} {a x : α} : x ∈ insK key L a ↔ x = a ∨ x ∈ L := by
  have : x ∈ L ↔ x ∈ L.take (lbK key L (key a)) ∨ x ∈ L.drop (lbK key L (key a)) := by
    rw [← List.mem_append, List.take_append_drop]
  unfold insK
  rw [this]
  simp only [List.mem_append, List.mem_singleton]
  constructor
  · rintro ((h | h) | h)
    · exact .inr (.inl h)
    · exact .inl h
    · exact .inr (.inr h)
  · rintro (h | h | h)
    · exact .inl (.inr h)
    · exact .inl (.inl h)
    · exact .inr h
theorem find_ins {α : Type} {key : α → Int} {L : List α} (h : IncK key L) {a : α} (hn : hasK key L (key a) = false) (s : Int) : ((insK key L a).find? fun e => decide (key e = s)) = if key a = s then some a else L.find? fun e => decide (key e = s) := by
  have hi := inc_ins h a hn
  have uni : ∀ {M : List α}, IncK key M → ∀ x ∈ M, key x = s → (M.find? fun e => decide (key e = s)) = some x := by
    intro M hM x hx hk
    cases hf : M.find? fun e => decide (key e = s) with
    | none => rw [List.find?_eq_none] at hf; exact absurd (decide_eq_true hk) (hf x hx)
    | some y =>
      have hy : key y = s := by simpa using List.find?_some hf
      obtain ⟨i, hi, rfl⟩ := List.mem_iff_getElem.1 hx
      obtain ⟨j, hj, rfl⟩ := List.mem_iff_getElem.1 (List.mem_of_find?_eq_some hf)
      rcases Nat.lt_trichotomy i j with h | h | h
      · have := hM.lt hj h; omega
      · subst h; rfl
      · have := hM.lt hi h; omega
  by_cases hs : key a = s
  · rw [if_pos hs]; exact uni hi a (mem_ins.2 (.inl rfl)) hs
  · rw [if_neg hs]
    cases hf : L.find? fun e => decide (key e = s) with
    | some y =>
      have hy : key y = s := by simpa using List.find?_some hf
      exact uni hi y (mem_ins.2 (.inr (List.mem_of_find?_eq_some hf))) hy
    | none =>
      rw [List.find?_eq_none] at hf ⊢
      intro x hx
      rcases mem_ins.1 hx with rfl | hx
      · simpa using hs
      · exact hf x hx
theorem learnY_eq {w : WindowWindow} (h : RW w) (s : Int) (v : List UInt8) : tR25Learn (plW w) s v = some (plW (learnW w s v).1, (learnW w s v).2) := by
  have hl := h.len16
  have hz := RightW.sz2 h
  have hz1 := RightW.sz1 h
  have hn := RightW.nx1 h
  have hn2 := RightW.nx2 h
  simp only [plW] at hz hz1 hn hn2
  unfold tR25Learn learnW
  have hw : IntKind.wrap .i64 ((plW w).Next + (plW w).Size) = w.Next + w.Size := by simp only [plW]; exact wrap64 (by omega) (by omega)
  simp only [hw]
  simp only [show (plW w).Next = w.Next from rfl, show (plW w).Size = w.Size from rfl]
  by_cases h1 : s < w.Next
  · simp [h1]
  have hfull : (endW w ≤ s) ↔ (w.Next + w.Size ≤ s ∨ (100000 : Int) ≤ s) := by unfold endW; split <;> omega
  by_cases h2 : endW w ≤ s
  · simp only [h1, h2, if_false, if_true]
    rcases hfull.1 h2 with h3 | h3
    · simp [h3]
    · by_cases h4 : w.Next + w.Size ≤ s <;> simp [h3, h4]
  have h3 : ¬ w.Next + w.Size ≤ s := fun hh => h2 (hfull.2 (.inl hh))
  have h4 : ¬ (100000 : Int) ≤ s := fun hh => h2 (hfull.2 (.inr hh))
  simp only [h1, h2, h3, h4, if_false, decide_false, bd_s, Bool.false_eq_true]
  by_cases h5 : (6000 : Int) < (v.length : Int)
  · simp only [h5, if_true, show 6000 < v.length by omega]
  simp only [h5, if_false, show ¬ 6000 < v.length by omega, h.has, bd_s]
  cases hf : w.L.find? fun e => decide (e.Slot = s) with
  | some e =>
    simp only [if_true, bd_s]
    by_cases he : e.Value = v <;> simp [he]
  | none =>
    simp only [Bool.false_eq_true, if_false, bd_s]
    have hns : hasK wk w.L (wk ⟨s, v⟩) = false := by rw [find_has]; simp only [wk, hf]; rfl
    have hns' : hasK rk (plW w).L (rk (plE ⟨s, v⟩)) = false := by
      show hasK rk (w.L.map plE) s = false
      rw [has_map (f := plE) (key := wk) (key' := rk) (fun _ => rfl)]; exact hns
    have hii : IncK rk (insK rk (plW w).L (plE ⟨s, v⟩)) := inc_ins (RightW.inc h) _ hns'
    obtain ⟨M, hM⟩ : ∃ M, M = insK rk (plW w).L (plE ⟨s, v⟩) := ⟨_, rfl⟩
    have hMl : M.length = w.L.length + 1 := by rw [hM, ins_len]; simp [plW]
    have hfind : ∀ n, (M.find? fun e => decide (e.Slot = n)) = if s = n then some (plE ⟨s, v⟩) else (w.L.find? fun e => decide (e.Slot = n)).map plE := by
      intro n
      have h1 := find_ins (RightW.inc h) hns' n
      have h2 := find_map (f := plE) (key := wk) (key' := rk) (fun _ => rfl) w.L n
      simp only [rk, wk] at h1 h2
      rw [hM, h1, show (plW w).L = w.L.map plE from rfl, h2]; rfl
    obtain ⟨N, hN⟩ : ∃ N : Nat, (N : Int) = w.Size := ⟨w.Size.toNat, by omega⟩
    have hall : ∀ e ∈ M, w.Next ≤ e.Slot ∧ e.Slot < w.Next + w.Size := by
      intro e he
      rw [hM] at he
      rcases mem_ins.1 he with rfl | he
      · exact ⟨by simp only [plE]; omega, by simp only [plE]; omega⟩
      · have := RightW.all h e he
        exact ⟨this.1, this.2.1⟩
    have hloop : Loop (tR25LearnL1 (plW w) s v) (([] : List R25Entry), w.Next) = some M := by
      refine Gives.eq (Gives.count (fun k => (M.filter (fun e => decide (e.Slot < w.Next + (k : Int))), w.Next + (k : Int))) N (fun _ => True) ?_ trivial (fun k hk _ => ?_) (fun _ => ?_))
      · have : (M.filter fun e => decide (e.Slot < w.Next + ((0 : Nat) : Int))) = [] := by
          rw [List.filter_eq_nil_iff]
          intro e he
          have := hall e he
          simp; omega
        rw [this]; simp
      · unfold tR25LearnL1
        have hbs := below_succ (key := rk) (hM ▸ hii) (w.Next + (k : Int))
        have hle := List.length_filter_le (fun e : R25Entry => decide (e.Slot < w.Next + (k : Int))) M
        simp only [rk] at hbs
        simp only [hw, show (w.Next + (k : Int) < w.Next + w.Size) by omega, if_true, h.has, bd_s]
        rw [wrap64 (x := w.Next + (k : Int) + 1) (by omega) (by omega), show w.Next + (k : Int) + 1 = w.Next + ((k + 1 : Nat) : Int) by omega] at *
        rw [hfind] at hbs
        by_cases hk : s = w.Next + (k : Int)
        · have hk' : w.Next + (k : Int) = s := hk.symm
          rw [if_pos hk] at hbs
          simp only [hk', hf, Bool.false_eq_true, if_false, bd_s, if_true] at *
          rw [if_pos (by simp only [List.length_cons, List.length_nil]; omega), bd_s]
          refine .mk ⟨?_, trivial⟩
          rw [hbs]; rfl
        · have hk' : ¬ w.Next + (k : Int) = s := fun hh => hk hh.symm
          rw [if_neg hk] at hbs
          simp only [hk', if_false]
          cases hg : w.L.find? fun e => decide (e.Slot = w.Next + (k : Int)) with
          | some e =>
            have hes : e.Slot = w.Next + (k : Int) := by simpa using List.find?_some hg
            simp only [hg, Option.map_some] at hbs
            simp only [if_true]
            rw [if_pos (by simp only [List.length_cons, List.length_nil]; omega)]
            simp only [bd_s]
            refine .mk ⟨?_, trivial⟩
            rw [hbs]; simp only [plE, hes]
          | none =>
            simp only [hg, Option.map_none, List.append_nil] at hbs
            simp only [Bool.false_eq_true, if_false, bd_s]
            refine .mk ⟨?_, trivial⟩
            rw [hbs]
      · unfold tR25LearnL1
        simp only [hw, show ¬ (w.Next + (N : Int) < w.Next + w.Size) by omega, if_false]
        refine .mk ?_
        show List.filter _ M = M
        rw [List.filter_eq_self]
        intro e he
        have := hall e he
        exact decide_eq_true (by omega)
    rw [hloop]
    simp only [bd_s, plW, hM]
    rw [ins_map (f := plE) (key := wk) (key' := rk) (fun _ => rfl)]
theorem sameY_eq (a b : R25Window) (hl : a.L.length < 2 ^ 60) : tR25Same a b = some (decide (a = b)) := by
  unfold tR25Same
  by_cases h1 : a.Size = b.Size
  · by_cases h2 : a.Next = b.Next
    · by_cases h3 : a.L.length = b.L.length
      · simp only [h1, h2, h3, decide_true, Bool.not_true, Bool.false_eq_true, if_false, bd_s]
        have hloop : Loop (tR25SameL1 a b) 0 = some (if a.L = b.L then .inl () else .inr false) := by
          refine Loop_same h3 (fun k ha hb => ?_) ?_
          · unfold tR25SameL1
            simp only [show ((k : Int) < (a.L.length : Int)) by omega, if_true, ix_nat ha, ix_nat hb]
            rw [wrap64 (by omega) (by omega)]
            have : (a.L[k] = b.L[k]) ↔ (a.L[k].Slot = b.L[k].Slot ∧ a.L[k].Value = b.L[k].Value) := by
              generalize a.L[k] = x; generalize b.L[k] = y
              cases x; cases y; simp
            by_cases g1 : a.L[k].Slot = b.L[k].Slot <;> by_cases g2 : a.L[k].Value = b.L[k].Value <;> simp [this, g1, g2]
          · unfold tR25SameL1
            simp only [show ¬ ((a.L.length : Int) < (a.L.length : Int)) by omega, if_false]
        rw [hloop]
        by_cases he : a.L = b.L
        · have : a = b := by cases a; cases b; simp_all
          simp [this]
        · have : ¬ a = b := fun h => he (by rw [h])
          simp [he, this]
      · have : ¬ a = b := fun h => h3 (by rw [h])
        simp [h1, h2, this, show ¬ ((a.L.length : Int) = (b.L.length : Int)) by omega]
    · have : ¬ a = b := fun h => h2 (by rw [h])
      simp [h1, h2, this]
  · have : ¬ a = b := fun h => h1 (by rw [h])
    simp [h1, this]
theorem strings_eq (a b : List (List UInt8)) (hl : a.length < 2 ^ 60) : tR01Strings a b = some (decide (a = b)) := by
  unfold tR01Strings
  by_cases h3 : a.length = b.length
  · simp only [h3, decide_true, Bool.not_true, Bool.false_eq_true, if_false, bd_s]
    have hloop : Loop (tR01StringsL1 a b) 0 = some (if a = b then .inl () else .inr false) := by
      refine Loop_same h3 (fun k ha hb => ?_) ?_
      · unfold tR01StringsL1
        simp only [show ((k : Int) < (a.length : Int)) by omega, if_true, ix_nat ha, ix_nat hb]
        rw [wrap64 (by omega) (by omega)]
        by_cases g1 : a[k] = b[k] <;> simp [g1]
      · unfold tR01StringsL1
        simp only [show ¬ ((a.length : Int) < (a.length : Int)) by omega, if_false]
    rw [hloop]
    by_cases he : a = b <;> simp [he]
  · have : ¬ a = b := fun h => h3 (by rw [h])
    simp [this, show ¬ ((a.length : Int) = (b.length : Int)) by omega]
theorem ints_eq (a b : List Int) (hl : a.length < 2 ^ 60) : tR01Ints a b = some (decide (a = b)) := by
  unfold tR01Ints
  by_cases h3 : a.length = b.length
  · simp only [h3, decide_true, Bool.not_true, Bool.false_eq_true, if_false, bd_s]
    have hloop : Loop (tR01IntsL1 a b) 0 = some (if a = b then .inl () else .inr false) := by
      refine Loop_same h3 (fun k ha hb => ?_) ?_
      · unfold tR01IntsL1
        simp only [show ((k : Int) < (a.length : Int)) by omega, if_true, ix_nat ha, ix_nat hb]
        rw [wrap64 (by omega) (by omega)]
        by_cases g1 : a[k] = b[k] <;> simp [g1]
      · unfold tR01IntsL1
        simp only [show ¬ ((a.length : Int) < (a.length : Int)) by omega, if_false]
    rw [hloop]
    by_cases he : a = b <;> simp [he]
  · have : ¬ a = b := fun h => h3 (by rw [h])
    simp [this, show ¬ ((a.length : Int) = (b.length : Int)) by omega]
end Dn.S
