import Derived.Test.YtjblhgpbkfmkoaaDnYT
import Derived.Test.YtjblhgpbkfmkoaaDnD
/-
  Tallies: the functions on typed values are what the document says. Conditions: none.
-/
open Go Dn
set_option linter.unusedVariables false
set_option linter.unusedSimpArgs false
namespace Dn.S
theorem isNaN_eq (x : Int) : tCmpIsNaNInt x = some false := by simp [tCmpIsNaNInt]
theorem compare_eq (x y : Int) : tCmpCompareInt x y = some (cmp3 x y) := by
  simp only [tCmpCompareInt, isNaN_eq, bd_s, Bool.false_eq_true, if_false, cmp3]
  split
  · rfl
  · split <;> rfl
abbrev vk (e : ApiAccept) : Int := e.By
/-- may a vote be -/
def MayV (a : ApiAccept) : Prop := 0 ≤ a.By ∧ 0 ≤ a.View ∧ a.View ≤ 100000 ∧ a.Value.length ≤ 6000
instance (a : ApiAccept) : Decidable (MayV a) := by unfold MayV; infer_instance
theorem r18may_eq (a : ApiAccept) : tR18May a = some (decide (MayV a)) := by
  unfold tR18May MayV
  by_cases h1 : 0 ≤ a.By <;> by_cases h2 : 0 ≤ a.View <;> by_cases h3 : a.View ≤ 100000 <;> simp [h1, h2, h3]
  all_goals omega
theorem tallymay_eq (a : ApiAccept) : tTallyMay a = some (decide (MayV a)) := r18may_eq a
structure RightV (L : List ApiAccept) : Prop where
  all : ∀ e ∈ L, MayV e
  inc : IncK vk L
theorem chain_inc {α : Type} {key : α → Int} {L : List α} (h : ∀ j (hj : j + 1 < L.length), key L[j] < key L[j + 1]) : IncK key L := by
  unfold IncK
  rw [List.pairwise_iff_getElem]
  intro i j hi hj hij
  induction j with
  | zero => omega
  | succ j ih =>
    have h1 := h j hj
    by_cases hij2 : i = j
    · subst hij2; exact h1
    · exact Int.lt_trans (ih (by omega) (by omega)) h1
def okAt (L : List ApiAccept) (k : Nat) : Prop := ∃ hk : k < L.length, MayV L[k] ∧ (0 < k → (L[k - 1]'(by omega)).By < L[k].By)
theorem right_chain {L : List ApiAccept} : (∀ k, k < L.length → okAt L k) ↔ RightV L := by
  constructor
  · intro h
    refine ⟨fun e he => ?_, chain_inc fun j hj => ?_⟩
    · obtain ⟨k, hk, rfl⟩ := List.mem_iff_getElem.1 he
      exact (h k hk).2.1
    · have := (h (j + 1) hj).2.2 (by omega)
      simpa using this
  · intro h k hk
    exact ⟨hk, h.all _ (List.getElem_mem hk), fun h0 => h.inc.lt hk (by omega)⟩
theorem r18right_eq (L : List ApiAccept) (hl : L.length < 2 ^ 60) : Gives (tR18Right ⟨L⟩) fun b => b = true ↔ RightV L := by
  unfold tR18Right
  refine Gives.bd (Loop_all L.length (okAt L) false (fun k hk _ => ?_) ?_) ?_
  · unfold tR18RightL1
    simp only [show ((k : Int) < (L.length : Int)) by omega, if_true, ix_nat hk, r18may_eq, bd_s]
    rw [wrap64 (x := (k : Int) + 1) (by omega) (by omega), show (k : Int) + 1 = ((k + 1 : Nat) : Int) by omega]
    by_cases hm : MayV L[k]
    · simp only [hm, decide_true, Bool.not_true, Bool.false_eq_true, if_false]
      by_cases g5 : k = 0
      · subst g5
        simp only [show ¬ ((0 : Int) < ((0 : Nat) : Int)) by omega, if_false, bd_s, Bool.false_eq_true]
        exact ⟨fun _ => trivial, fun h => absurd ⟨hk, hm, by omega⟩ h⟩
      · have hk1 : k - 1 < L.length := by omega
        rw [wrap64 (x := (k : Int) - 1) (by omega) (by omega), show ((k : Int) - 1) = ((k - 1 : Nat) : Int) by omega]
        simp only [show ((0 : Int) < (k : Int)) by omega, if_true, ix_nat hk1, ix_nat hk, bd_s]
        by_cases g6 : L[k].By ≤ L[k - 1].By
        · simp only [g6, decide_true, if_true]; exact ⟨fun ⟨_, _, h⟩ => by have := h (by omega); omega, fun _ => trivial⟩
        · simp only [g6, decide_false, Bool.false_eq_true, if_false]; exact ⟨fun _ => trivial, fun h => absurd ⟨hk, hm, fun _ => by omega⟩ h⟩
    · simp only [hm, decide_false, Bool.not_false, if_true, bd_s]
      exact ⟨fun ⟨_, h, _⟩ => absurd h hm, fun _ => trivial⟩
  · unfold tR18RightL1
    simp only [show ¬ ((L.length : Int) < (L.length : Int)) by omega, if_false]
  · rintro r (⟨rfl, h⟩ | ⟨rfl, k, hk, h⟩)
    · exact .mk ⟨fun _ => right_chain.1 h, fun _ => rfl⟩
    · exact .mk ⟨fun h => (by cases h), fun hr => absurd (right_chain.2 hr k hk) h⟩
theorem tallyright_eq (L : List ApiAccept) (hl : L.length < 2 ^ 60) : Gives (tTallyRight ⟨L⟩) fun b => b = true ↔ RightV L := by
  unfold tTallyRight
  refine Gives.bd (Loop_all L.length (okAt L) false (fun k hk _ => ?_) ?_) ?_
  · unfold tTallyRightL1
    simp only [show ((k : Int) < (L.length : Int)) by omega, if_true, ix_nat hk, tallymay_eq, bd_s]
    rw [wrap64 (x := (k : Int) + 1) (by omega) (by omega), show (k : Int) + 1 = ((k + 1 : Nat) : Int) by omega]
    by_cases hm : MayV L[k]
    · simp only [hm, decide_true, Bool.not_true, Bool.false_eq_true, if_false]
      by_cases g5 : k = 0
      · subst g5
        simp only [show ¬ ((0 : Int) < ((0 : Nat) : Int)) by omega, if_false, bd_s, Bool.false_eq_true]
        exact ⟨fun _ => trivial, fun h => absurd ⟨hk, hm, by omega⟩ h⟩
      · have hk1 : k - 1 < L.length := by omega
        rw [wrap64 (x := (k : Int) - 1) (by omega) (by omega), show ((k : Int) - 1) = ((k - 1 : Nat) : Int) by omega]
        simp only [show ((0 : Int) < (k : Int)) by omega, if_true, ix_nat hk1, ix_nat hk, bd_s]
        by_cases g6 : L[k].By ≤ L[k - 1].By
        · simp only [g6, decide_true, if_true]; exact ⟨fun ⟨_, _, h⟩ => by have := h (by omega); omega, fun _ => trivial⟩
        · simp only [g6, decide_false, Bool.false_eq_true, if_false]; exact ⟨fun _ => trivial, fun h => absurd ⟨hk, hm, fun _ => by omega⟩ h⟩
    · simp only [hm, decide_false, Bool.not_false, if_true, bd_s]
      exact ⟨fun ⟨_, h, _⟩ => absurd h hm, fun _ => trivial⟩
  · unfold tTallyRightL1
    simp only [show ¬ ((L.length : Int) < (L.length : Int)) by omega, if_false]
  · rintro r (⟨rfl, h⟩ | ⟨rfl, k, hk, h⟩)
    · exact .mk ⟨fun _ => right_chain.1 h, fun _ => rfl⟩
    · exact .mk ⟨fun h => (by cases h), fun hr => absurd (right_chain.2 hr k hk) h⟩
theorem acc_eq (x y : ApiAccept) : ((decide (x.By = y.By)) && ((decide (x.View = y.View)) && (decide (x.Value = y.Value)))) = decide (x = y) := by
  cases x; cases y
  rw [Bool.eq_iff_iff]
  simp
theorem r18same_eq (a b : List ApiAccept) (hl : a.length < 2 ^ 60) : tR18Same a b = some (decide (a = b)) := by
  unfold tR18Same
  by_cases h : a.length = b.length
  · simp only [show ((a.length : Int) = (b.length : Int)) by omega, decide_true, Bool.not_true, Bool.false_eq_true, if_false]
    have hloop : Loop (tR18SameL1 a b) 0 = some (if a = b then .inl () else .inr false) := by
      refine Loop_same h (fun k ha hb => ?_) ?_
      · unfold tR18SameL1
        simp only [show ((k : Int) < (a.length : Int)) by omega, if_true, ix_nat ha, ix_nat hb, acc_eq]
        rw [wrap64 (by omega) (by omega), show (k : Int) + 1 = ((k + 1 : Nat) : Int) by omega]
        by_cases he : a[k] = b[k] <;> simp [he]
      · unfold tR18SameL1
        simp only [show ¬ ((a.length : Int) < (a.length : Int)) by omega, if_false]
    rw [hloop]
    by_cases he : a = b <;> simp [he]
  · simp only [show ¬ ((a.length : Int) = (b.length : Int)) by omega, decide_false, Bool.not_false, if_true]
    rw [decide_eq_false]
    intro he; exact h (by rw [he])
theorem equal_eq (a b : List ApiAccept) (hl : a.length < 2 ^ 60) : tSlicesEqualApiAccept a b = some (decide (a = b)) := by
  unfold tSlicesEqualApiAccept
  by_cases h : a.length = b.length
  · simp only [show ((a.length : Int) = (b.length : Int)) by omega, decide_true, Bool.not_true, Bool.false_eq_true, if_false]
    have hloop : Loop (tSlicesEqualApiAcceptL1 a b) 0 = some (if a = b then .inl () else .inr false) := by
      refine Loop_same h (fun k ha hb => ?_) ?_
      · unfold tSlicesEqualApiAcceptL1
        simp only [show ((k : Int) < (a.length : Int)) by omega, if_true, ix_nat ha, ix_nat hb, acc_eq]
        rw [wrap64 (by omega) (by omega), show (k : Int) + 1 = ((k + 1 : Nat) : Int) by omega]
        by_cases he : a[k] = b[k] <;> simp [he]
      · unfold tSlicesEqualApiAcceptL1
        simp only [show ¬ ((a.length : Int) < (a.length : Int)) by omega, if_false]
    rw [hloop]
    by_cases he : a = b <;> simp [he]
  · simp only [show ¬ ((a.length : Int) = (b.length : Int)) by omega, decide_false, Bool.not_false, if_true]
    rw [decide_eq_false]
    intro he; exact h (by rw [he])
theorem tallysame_eq (a b : List ApiAccept) (hl : a.length < 2 ^ 60) : tTallySame a b = some (decide (a = b)) := by
  unfold tTallySame
  rw [equal_eq a b hl]; rfl
/-! ### adding -/
/-- is there a vote that is as new -/
def oldV (L : List ApiAccept) (a : ApiAccept) : Bool := L.any fun x => decide (x.By = a.By) && decide (a.View ≤ x.View)
/-- with a vote in its place -/
def putV (L : List ApiAccept) (a : ApiAccept) : List ApiAccept := L.take (lbK vk L a.By) ++ [a] ++ L.drop (lbK vk L a.By + if hasK vk L a.By then 1 else 0)
def addV (L : List ApiAccept) (a : ApiAccept) : List ApiAccept × Bool := if MayV a ∧ oldV L a = false then (putV L a, true) else (L, false)
theorem oldV_at {L : List ApiAccept} {a : ApiAccept} (hs : IncK vk L) : oldV L a = true ↔ ∃ h : lbK vk L a.By < L.length, L[lbK vk L a.By].By = a.By ∧ a.View ≤ L[lbK vk L a.By].View := by
  unfold oldV
  rw [List.any_eq_true]
  constructor
  · rintro ⟨x, hx, hh⟩
    simp only [Bool.and_eq_true, decide_eq_true_eq] at hh
    have hk : hasK vk L a.By = true := hasK_iff.2 ⟨x, hx, hh.1⟩
    obtain ⟨h, he⟩ := (hs.has a.By).1 hk
    refine ⟨h, he, ?_⟩
    obtain ⟨k, hkl, rfl⟩ := List.mem_iff_getElem.1 hx
    have : k = lbK vk L a.By := by
      rcases Nat.lt_trichotomy k (lbK vk L a.By) with h1 | h1 | h1
      · have := hs.lt h h1; have := hh.1; simp only [vk] at *; omega
      · exact h1
      · have := hs.lt hkl h1; have := hh.1; simp only [vk] at *; omega
    subst this
    exact hh.2
  · rintro ⟨h, h1, h2⟩
    exact ⟨_, List.getElem_mem h, by simp [h1, h2]⟩
theorem bsearchV {L : List ApiAccept} {s : Int} (hs : IncK vk L) (hl : L.length < 2 ^ 60) : tSlicesBinarySearchFuncApiAcceptInt L s tTallyAddF1 = some ((lbK vk L s : Int), hasK vk L s) := by
  have : tSlicesBinarySearchFuncApiAcceptInt L s tTallyAddF1 = bsearch L s tTallyAddF1 := rfl
  rw [this]
  exact bsearch_eq hs hl fun a => by unfold tTallyAddF1; rw [compare_eq]; rfl
theorem tallyadd_eq {L : List ApiAccept} {a : ApiAccept} (hs : IncK vk L) (hl : L.length < 2 ^ 32) : tTallyAdd ⟨L⟩ a = some (⟨(addV L a).1⟩, (addV L a).2) := by
  unfold tTallyAdd addV
  rw [tallymay_eq]
  by_cases hm : MayV a
  rotate_left
  · simp [hm]
  simp only [bd_s, hm, decide_true, Bool.not_true, Bool.false_eq_true, if_false, bsearchV hs (by omega)]
  have hle := lbK_le (key := vk) L a.By
  cases hh : hasK vk L a.By with
  | false =>
    have ho : oldV L a = false := by
      rw [Bool.eq_false_iff]
      intro ho
      obtain ⟨h, he, _⟩ := (oldV_at hs).1 ho
      have := (hs.has a.By).2 ⟨h, he⟩
      rw [hh] at this; cases this
    simp only [Bool.false_eq_true, if_false, bd_s, ho, and_self, if_true]
    rw [tClone_eq (by omega)]
    simp only [bd_s]
    have := tInsert_lb (key := vk) (L := L) (a := a) (by' := 32) (by omega)
    rw [this]
    simp only [bd_s, putV, insK, hh, Bool.false_eq_true, if_false, Nat.add_zero]
  | true =>
    obtain ⟨h, he⟩ := (hs.has a.By).1 hh
    simp only [if_true, ix_nat h, bd_s]
    by_cases hv : a.View ≤ L[lbK vk L a.By].View
    · have ho : oldV L a = true := (oldV_at hs).2 ⟨h, he, hv⟩
      simp [hv, ho]
    · have ho : oldV L a = false := by
        rw [Bool.eq_false_iff]
        intro ho
        obtain ⟨_, _, h2⟩ := (oldV_at hs).1 ho
        exact hv h2
      simp only [hv, decide_false, Bool.false_eq_true, if_false, ho, and_self, if_true]
      rw [tClone_eq (by omega)]
      simp only [bd_s, ix_nat h, Int.toNat_natCast]
      congr 3
      unfold putV
      rw [hh]
      apply List.ext_getElem?
      intro i
      rw [List.getElem?_set]
      have hlt : (L.take (lbK vk L a.By)).length = lbK vk L a.By := by rw [List.length_take]; omega
      rcases Nat.lt_trichotomy i (lbK vk L a.By) with hi | hi | hi
      · rw [if_neg (by omega), List.append_assoc, List.getElem?_append_left (by omega), List.getElem?_take_of_lt hi]
      · subst hi
        rw [if_pos rfl, List.append_assoc, List.getElem?_append_right (by omega), hlt]
        simp [h]
      · rw [if_neg (by omega), List.getElem?_append_right (by simp; omega)]
        simp only [List.length_append, hlt, List.length_cons, List.length_nil, if_true, List.getElem?_drop]
        congr 1; omega
theorem putV_inc {L : List ApiAccept} {a : ApiAccept} (hs : IncK vk L) : IncK vk (putV L a) := by
  obtain ⟨h1, h2⟩ := hs.lb a.By
  unfold putV IncK
  have hd : ∀ x ∈ L.drop (lbK vk L a.By + if hasK vk L a.By then 1 else 0), a.By < x.By := by
    intro x hx
    obtain ⟨k, hk, rfl⟩ := List.mem_iff_getElem.1 hx
    rw [List.length_drop] at hk
    rw [List.getElem_drop]
    have h3 := h2 (lbK vk L a.By + (if hasK vk L a.By then 1 else 0) + k) (by omega) (by omega)
    rcases Bool.eq_false_or_eq_true (hasK vk L a.By) with hh | hh
    · obtain ⟨g1, g2⟩ := (hs.has a.By).1 hh
      simp only [hh, if_true] at hk ⊢
      have := hs.lt (i := lbK vk L a.By) (j := lbK vk L a.By + 1 + k) (by omega) (by omega)
      simp only [vk] at *; omega
    · simp only [hh, Bool.false_eq_true, if_false, Nat.add_zero] at hk h3 ⊢
      have hne : (L[lbK vk L a.By + k]).By ≠ a.By := fun he => by
        have := hasK_iff.2 ⟨_, List.getElem_mem (by omega : lbK vk L a.By + k < L.length), he⟩
        rw [hh] at this; cases this
      simp only [vk] at *; omega
  have ht : ∀ x ∈ L.take (lbK vk L a.By), x.By < a.By := by
    intro x hx
    obtain ⟨k, hk, rfl⟩ := List.mem_iff_getElem.1 hx
    rw [List.length_take] at hk
    rw [List.getElem_take]
    exact h1 k (by omega) (by omega)
  rw [List.pairwise_append, List.pairwise_append]
  refine ⟨⟨hs.sublist (List.take_sublist _ _), List.pairwise_singleton _ _, fun x hx y hy => by rw [List.mem_singleton.1 hy]; exact ht x hx⟩, hs.sublist (List.drop_sublist _ _), fun x hx y hy => ?_⟩
  rcases List.mem_append.1 hx with hx | hx
  · exact Int.lt_trans (ht x hx) (hd y hy)
  · rw [List.mem_singleton.1 hx]; exact hd y hy
theorem putV_mem {L : List ApiAccept} {a x : ApiAccept} (hs : IncK vk L) : x ∈ putV L a ↔ x = a ∨ (x ∈ L ∧ x.By ≠ a.By) := by
  obtain ⟨h1, h2⟩ := hs.lb a.By
  unfold putV
  simp only [List.mem_append, List.mem_singleton]
  have hsplit : ∀ x, x ∈ L ∧ x.By ≠ a.By ↔ x ∈ L.take (lbK vk L a.By) ∨ x ∈ L.drop (lbK vk L a.By + if hasK vk L a.By then 1 else 0) := by
    intro x
    constructor
    · rintro ⟨hx, hne⟩
      obtain ⟨k, hk, rfl⟩ := List.mem_iff_getElem.1 hx
      by_cases hlt : k < lbK vk L a.By
      · exact .inl (List.mem_iff_getElem.2 ⟨k, by rw [List.length_take]; omega, by rw [List.getElem_take]⟩)
      · right
        have hgt : lbK vk L a.By + (if hasK vk L a.By then 1 else 0) ≤ k := by
          cases hh : hasK vk L a.By with
          | false => simp; omega
          | true =>
            obtain ⟨g1, g2⟩ := (hs.has a.By).1 hh
            simp only [if_true]
            by_cases hk2 : k = lbK vk L a.By
            · subst hk2; exact absurd g2 hne
            · omega
        exact List.mem_iff_getElem.2 ⟨k - (lbK vk L a.By + if hasK vk L a.By then 1 else 0), by rw [List.length_drop]; omega, by rw [List.getElem_drop]; congr 1; omega⟩
    · rintro (hx | hx)
      · obtain ⟨k, hk, rfl⟩ := List.mem_iff_getElem.1 hx
        rw [List.length_take] at hk
        rw [List.getElem_take]
        refine ⟨List.getElem_mem _, ?_⟩
        have := h1 k (by omega) (by omega)
        simp only [vk] at *; omega
      · obtain ⟨k, hk, rfl⟩ := List.mem_iff_getElem.1 hx
        rw [List.length_drop] at hk
        rw [List.getElem_drop]
        refine ⟨List.getElem_mem _, fun he => ?_⟩
        have hh : hasK vk L a.By = true := hasK_iff.2 ⟨_, List.getElem_mem (by omega), he⟩
        obtain ⟨g1, g2⟩ := (hs.has a.By).1 hh
        simp only [hh, if_true] at hk he
        have := hs.lt (i := lbK vk L a.By) (j := lbK vk L a.By + 1 + k) (by omega) (by omega)
        simp only [vk] at *; omega
  rw [hsplit]
  constructor
  · rintro ((h | h) | h)
    · exact .inr (.inl h)
    · exact .inl h
    · exact .inr (.inr h)
  · rintro (h | h | h)
    · exact .inl (.inr h)
    · exact .inl (.inl h)
    · exact .inr h
theorem addV_right {L : List ApiAccept} {a : ApiAccept} (h : RightV L) : RightV (addV L a).1 := by
  unfold addV
  split
  · rename_i hc
    refine ⟨fun e he => ?_, putV_inc h.inc⟩
    rcases (putV_mem h.inc).1 he with rfl | ⟨he, _⟩
    · exact hc.1
    · exact h.all e he
  · exact h
theorem addV_len {L : List ApiAccept} {a : ApiAccept} : (addV L a).1.length ≤ L.length + 1 := by
  unfold addV
  split
  · simp only [putV, List.length_append, List.length_take, List.length_drop, List.length_cons, List.length_nil]
    have := lbK_le (key := vk) L a.By
    omega
  · simp
end Dn.S
