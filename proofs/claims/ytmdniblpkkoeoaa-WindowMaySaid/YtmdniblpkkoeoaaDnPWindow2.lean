import Derived.Test.YtmdniblpkkoeoaaDnPWindow
/-
  Windows: laws. Conditions: none.
-/
open Go Dn
set_option linter.unusedVariables false
set_option linter.unusedSimpArgs false
namespace Dn.S
theorem mem_openL {w : WindowWindow} {k : Nat} {s : Int} : s ∈ openL w k ↔ w.Next ≤ s ∧ s < w.Next + (k : Int) ∧ hasK wk w.L s = false := by
  unfold openL
  simp only [List.mem_filter, List.mem_map, List.mem_range, Bool.not_eq_true']
  constructor
  · rintro ⟨⟨j, hj, rfl⟩, h⟩; exact ⟨by omega, by omega, h⟩
  · rintro ⟨h1, h2, h3⟩; exact ⟨⟨(s - w.Next).toNat, by omega, by omega⟩, h3⟩
theorem openL_inc (w : WindowWindow) (k : Nat) : (openL w k).Pairwise (· < ·) := by
  unfold openL
  refine List.Pairwise.filter _ ?_
  rw [List.pairwise_map]
  exact List.pairwise_lt_range.imp (fun h => by omega)
theorem len_filter {α : Type} (p : α → Bool) (l : List α) : l.length = (l.filter p).length + (l.filter fun a => !p a).length := by
  induction l with
  | nil => rfl
  | cons a r ih => cases h : p a <;> simp [h] <;> omega
theorem lt_nodup {l : List Int} (h : l.Pairwise (· < ·)) : l.Nodup := h.imp (fun h e => by omega)
theorem opens_count {w : WindowWindow} (hr : RW w) : (opens w).length + w.L.length = (endW w - w.Next).toNat := by
  obtain ⟨N, hN⟩ : ∃ N, N = (endW w - w.Next).toNat := ⟨_, rfl⟩
  have he := hr.endle
  unfold opens
  rw [← hN]
  have hN2 : endW w = w.Next + (N : Int) := by omega
  let A : List Int := (List.range N).map fun j : Nat => w.Next + (j : Int)
  have hA : A.Pairwise (· < ·) := by
    show List.Pairwise _ (List.map _ _)
    rw [List.pairwise_map]
    exact List.pairwise_lt_range.imp (fun h => by omega)
  have h1 : A.length = (A.filter fun s => hasK wk w.L s).length + (A.filter fun s => !hasK wk w.L s).length := len_filter _ _
  have h2 : (A.filter fun s => hasK wk w.L s).length = (w.L.map wk).length := by
    refine List.Perm.length_eq ((List.perm_ext_iff_of_nodup (lt_nodup (hA.filter _)) (lt_nodup ?_)).2 ?_)
    · rw [List.pairwise_map]; exact hr.inc
    · intro s
      have hm : s ∈ A ↔ w.Next ≤ s ∧ s < w.Next + (N : Int) := by
        simp only [A, List.mem_map, List.mem_range]
        constructor
        · rintro ⟨j, hj, rfl⟩; omega
        · rintro ⟨h1, h2⟩; exact ⟨(s - w.Next).toNat, by omega, by omega⟩
      simp only [List.mem_filter, hm, List.mem_map, hasK_iff]
      constructor
      · rintro ⟨_, e, he, rfl⟩; exact ⟨e, he, rfl⟩
      · rintro ⟨e, he2, rfl⟩
        have := hr.all e he2
        refine ⟨⟨this.1, ?_⟩, e, he2, rfl⟩
        rw [← hN2]; unfold endW; split <;> simp only [wk] <;> omega
  have h3 : A.length = N := by simp [A]
  rw [List.length_map] at h2
  have h4 : (openL w N).length = (A.filter fun s => !hasK wk w.L s).length := rfl
  omega
theorem ins_len {α : Type} {key : α → Int} (L : List α) (a : α) : (insK key L a).length = L.length + 1 := by
  have := lbK_le (key := key) L (key a)
  unfold insK
  simp only [List.length_append, List.length_take, List.length_drop, List.length_cons, List.length_nil]
  omega
theorem learn_open {w : WindowWindow} (hr : RW w) (s : Int) (v : List UInt8) (hv : v.length ≤ 6000) : (s ∈ opens w) ↔ ((learnW w s v).2 = 0 ∧ (learnW w s v).1.L.length = w.L.length + 1) := by
  have he := hr.endle
  unfold opens
  rw [mem_openL]
  unfold learnW
  by_cases h1 : s < w.Next
  · rw [if_pos h1]; constructor
    · rintro ⟨h, _⟩; omega
    · rintro ⟨h, _⟩; cases h
  by_cases h2 : endW w ≤ s
  · rw [if_neg h1, if_pos h2]; constructor
    · rintro ⟨_, h, _⟩; omega
    · rintro ⟨h, _⟩; cases h
  rw [if_neg h1, if_neg h2, if_neg (by omega), find_has]
  cases hf : w.L.find? fun e => decide (e.Slot = s) with
  | some x =>
    simp only [wk, hf, Option.isSome_some]
    constructor
    · rintro ⟨_, _, h⟩; cases h
    · intro h; split at h
      · exact absurd h.2 (by simp)
      · exact absurd h.1 (by simp)
  | none =>
    simp only [wk, hf, Option.isSome_none]
    constructor
    · intro _; exact ⟨by decide, ins_len _ _⟩
    · intro _; exact ⟨by omega, by omega, by decide⟩
theorem guard_eq (w : WindowWindow) : Gives (bd (tL25Few w) fun rA => if !rA then some true else bd (tL25Plain w) fun rA1 => bd (tR25Right rA1) fun rA2 => some (!rA2)) fun b => b = false → RW w ∧ w.L.length ≤ 40 := by
  refine Gives.bd (few_eq w) fun b hb => ?_
  cases b with
  | false => exact .mk (by simp)
  | true =>
    obtain ⟨h1, _⟩ := hb rfl
    simp only [Bool.not_true, Bool.false_eq_true, if_false, plain_eq w (by omega), bd_s]
    refine Gives.bd (right_eq (plW w) (by simp only [plW, List.length_map]; omega)) fun b hb => .mk fun h => ⟨hb.1 (by simpa using h), h1⟩
theorem windowOpens_all (w : WindowWindow) (s : Int) : tL25WindowOpens w s = some true := by
  refine Gives.eq ?_
  unfold tL25WindowOpens
  refine Gives.bd (guard_eq w) fun b hb => ?_
  cases b with
  | true => simp only [if_true, alive_eq, bd_s]; exact .mk rfl
  | false =>
    obtain ⟨hr, hl⟩ := hb rfl
    simp only [Bool.false_eq_true, if_false, open_eq hr, bd_s]
    have hoc := opens_count hr
    have hel := hr.endle
    have hz := RightW.sz2 hr
    have hz1 := RightW.sz1 hr
    have hn := RightW.nx1 hr
    have hn2 := RightW.nx2 hr
    simp only [plW] at hz hz1 hn hn2
    have hinc : (opens w).Pairwise (· < ·) := openL_inc w _
    obtain ⟨O, hO⟩ : ∃ O, O = opens w := ⟨_, rfl⟩
    rw [← hO] at hoc hinc ⊢
    have hOl : O.length ≤ 16 := by omega
    refine Gives.bd (P := fun r => r = .inl (decide (s ∈ O))) ?_ ?_
    · refine Gives.count (fun k => (decide (s ∈ O.take k), (k : Int))) O.length (fun _ => True) (by simp) trivial (fun k hk _ => ?_) (fun _ => ?_)
      · unfold tL25WindowOpensL1
        simp only [show ((k : Int) < (O.length : Int)) by omega, if_true, ix_nat hk, bd_if, bd_s]
        have e1 : decide (s ∈ O.take (k + 1)) = if decide (s ∈ O.take k) = true then true else decide (O[k] = s) := by
          have : s ∈ O.take (k + 1) ↔ s ∈ O.take k ∨ s = O[k] := by rw [take_succ hk, List.mem_append, List.mem_singleton]
          by_cases h1 : s ∈ O.take k
          · simp [h1, this]
          · by_cases h2 : s = O[k]
            · simp [this, ← h2]
            · simp only [h1, this, h2, or_self, decide_false, Bool.false_eq_true, if_false, decide_eq_false (fun h : O[k] = s => h2 h.symm)]
        by_cases hk0 : k = 0
        · subst hk0
          simp only [show ¬ ((0 : Int) < ((0 : Nat) : Int)) by omega, if_false, Bool.false_eq_true]
          rw [wrap64 (by omega) (by omega), e1]
          cases decide (s ∈ O.take 0) <;> exact .mk ⟨rfl, trivial⟩
        · have hk1 : k - 1 < O.length := by omega
          have hlt := List.pairwise_iff_getElem.1 hinc (k - 1) k hk1 hk (by omega)
          rw [wrap64 (x := (k : Int) - 1) (by omega) (by omega), show ((k : Int) - 1) = ((k - 1 : Nat) : Int) by omega]
          simp only [show ((0 : Int) < (k : Int)) by omega, if_true, ix_nat hk1, bd_s, show ¬ (O[k] ≤ O[k - 1]) by omega, decide_false, Bool.false_eq_true, if_false]
          rw [wrap64 (by omega) (by omega), e1]
          cases decide (s ∈ O.take k) <;> exact .mk ⟨rfl, trivial⟩
      · unfold tL25WindowOpensL1
        simp only [show ¬ ((O.length : Int) < (O.length : Int)) by omega, if_false, List.take_length]
        exact .mk rfl
    · rintro r rfl
      simp only [learn_eq hr, bd_s]
      have hlo := learn_open hr s [118] (by decide)
      rw [← hO] at hlo
      have e2 : imin w.Size (IntKind.wrap .i64 (100000 - w.Next)) = ((endW w - w.Next).toNat : Int) := by
        rw [wrap64 (by omega) (by omega)]
        unfold imin endW at *
        split <;> split at hel <;> split at hoc <;> omega
      rw [e2, wrap64 (x := (w.L.length : Int) + 1) (by omega) (by omega), wrap64 (by omega) (by omega)]
      have e3 : (O.length : Int) = ((endW w - w.Next).toNat : Int) - (w.L.length : Int) := by omega
      have e4 : decide (((learnW w s [118]).1.L.length : Int) = (w.L.length : Int) + 1) = decide ((learnW w s [118]).1.L.length = w.L.length + 1) := by
        by_cases h : (learnW w s [118]).1.L.length = w.L.length + 1
        · rw [decide_eq_true h, decide_eq_true (by omega)]
        · rw [decide_eq_false h, decide_eq_false (by omega)]
      simp only [e4, alive_eq, bd_s, if_true, e3, decide_true]
      by_cases h0 : (learnW w s [118]).2 = 0
      · have : decide (s ∈ O) = decide ((learnW w s [118]).1.L.length = w.L.length + 1) := by
          by_cases h5 : (learnW w s [118]).1.L.length = w.L.length + 1
          · rw [decide_eq_true h5, decide_eq_true (hlo.2 ⟨h0, h5⟩)]
          · rw [decide_eq_false h5, decide_eq_false (fun h => h5 (hlo.1 h).2)]
        simp only [h0, if_true, this, decide_true, Bool.not_true, bd_s, Bool.false_eq_true, if_false]
        exact .mk rfl
      · have : decide (s ∈ O) = false := decide_eq_false (fun h => h0 (hlo.1 h).1)
        simp only [h0, if_false, this, decide_true, Bool.not_true, bd_s, Bool.false_eq_true]
        exact .mk rfl
end Dn.S
