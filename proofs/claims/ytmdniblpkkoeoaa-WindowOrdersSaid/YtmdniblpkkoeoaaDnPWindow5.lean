import Derived.Test.YtmdniblpkkoeoaaDnPWindow4
/-
  Windows: in whatever order. Conditions: none.
-/
open Go Dn
set_option linter.unusedVariables false
set_option linter.unusedSimpArgs false
namespace Dn.S
theorem learn_RW {w : WindowWindow} (h : RW w) (s : Int) (v : List UInt8) : RW (learnW w s v).1 := by
  have he := h.endle
  unfold learnW
  by_cases h1 : s < w.Next
  · simp [h1, h]
  by_cases h2 : endW w ≤ s
  · simp [h1, h2, h]
  by_cases h3 : 6000 < v.length
  · simp [h1, h2, h3, h]
  simp only [h1, h2, h3, if_false]
  cases hf : w.L.find? fun e => decide (e.Slot = s) with
  | some x => simp only; split <;> exact h
  | none =>
    have hns : hasK wk w.L (wk ⟨s, v⟩) = false := by rw [hasW]; simp only [hf]; rfl
    refine RW_mk (RightW.sz1 h) (RightW.sz2 h) (RightW.nx1 h) (RightW.nx2 h) (fun e he2 => ?_) (inc_ins h.inc _ hns)
    rcases mem_ins.1 he2 with rfl | he2
    · exact ⟨by simp only; omega, by simp only; omega, by simp only; omega, by simp only; omega⟩
    · exact h.all e he2
theorem take_RW {w : WindowWindow} (h : RW w) : RW (takeW w).1 := by
  have hn := RightW.nx1 h
  have hn2 := RightW.nx2 h
  simp only [plW] at hn hn2
  have hle := runN_le w.Next w.L
  have hge := at_ge (key := wk) (fun e he => (h.all e he).1) h.inc
  unfold takeW
  have hmx : w.Next + (runN w.Next w.L : Nat) ≤ 100000 := by
    by_cases h0 : runN w.Next w.L = 0
    · rw [h0]; omega
    · have h1 := runN_lt w.Next w.L (runN w.Next w.L - 1) (by omega) (by omega)
      have h2 := h.all _ (List.getElem_mem (by omega : runN w.Next w.L - 1 < w.L.length))
      omega
  refine RW_mk (RightW.sz1 h) (RightW.sz2 h) (by omega) hmx (fun e he => ?_) (h.inc.sublist (List.drop_sublist _ _))
  obtain ⟨k, hk, rfl⟩ := List.mem_iff_getElem.1 he
  rw [List.length_drop] at hk
  rw [List.getElem_drop]
  have h1 := h.all _ (List.getElem_mem (by omega : runN w.Next w.L + k < w.L.length))
  have h2 := hge (runN w.Next w.L + k) (by omega)
  simp only [wk] at h2
  omega
/-- what is right at each step: the window, all that was let in, what was taken -/
structure Ord (size : Int) (w : WindowWindow) (first : List WindowEntry) (taken : List (List UInt8)) : Prop where
  rw' : RW w
  sz : w.Size = size
  nx : w.Next = (taken.length : Int)
  len : w.L.length + taken.length = first.length
  mem : ∀ e, e ∈ first ↔ (∃ (i : Nat) (h : i < taken.length), e = ⟨(i : Int), taken[i]⟩) ∨ e ∈ w.L
theorem Ord.learn {size : Int} {w : WindowWindow} {first : List WindowEntry} {taken : List (List UInt8)} (h : Ord size w first taken) (s : Int) (v : List UInt8) :
    Ord size (learnW w s v).1 (if (learnW w s v).2 = 0 ∧ (first.any fun e => decide (e.Slot = s)) = false then first ++ [⟨s, v⟩] else first) taken := by
  have hR := learn_RW h.rw' s v
  have hany : (first.any fun e => decide (e.Slot = s)) = true ↔ ∃ e ∈ first, e.Slot = s := by simp
  unfold learnW at *
  by_cases h1 : s < w.Next
  · simp only [h1, if_true, show ¬ ((15 : Int) = 0) by decide, false_and, if_false]; exact h
  by_cases h2 : endW w ≤ s
  · simp only [h1, h2, if_true, if_false, show ¬ ((9 : Int) = 0) by decide, false_and]; exact h
  by_cases h3 : 6000 < v.length
  · simp only [h1, h2, h3, if_true, if_false, show ¬ ((5 : Int) = 0) by decide, false_and]; exact h
  simp only [h1, h2, h3, if_false] at hR ⊢
  cases hf : w.L.find? fun e => decide (e.Slot = s) with
  | some x =>
    have hx : x.Slot = s := by simpa using List.find?_some hf
    have hxm : x ∈ first := (h.mem x).2 (.inr (List.mem_of_find?_eq_some hf))
    have ha : (first.any fun e => decide (e.Slot = s)) = true := hany.2 ⟨x, hxm, hx⟩
    simp only [ha, Bool.true_eq_false, and_false, if_false]
    split <;> exact h
  | none =>
    have hna : (first.any fun e => decide (e.Slot = s)) = false := by
      rw [Bool.eq_false_iff]
      intro hh
      obtain ⟨e, he, hes⟩ := hany.1 hh
      rcases (h.mem e).1 he with ⟨i, hi, rfl⟩ | he
      · have := h.nx; simp only at hes; omega
      · rw [List.find?_eq_none] at hf
        exact hf e he (decide_eq_true hes)
    simp only [hf] at hR
    simp only [hna, and_self, if_true]
    refine ⟨hR, h.sz, h.nx, ?_, fun e => ?_⟩
    · have := h.len
      simp only [ins_len, List.length_append, List.length_cons, List.length_nil]; omega
    · rw [List.mem_append, List.mem_singleton, h.mem, mem_ins]
      constructor
      · rintro ((h | h) | h)
        · exact .inl h
        · exact .inr (.inr h)
        · exact .inr (.inl h)
      · rintro (h | h | h)
        · exact .inl (.inl h)
        · exact .inr h
        · exact .inl (.inr h)
theorem Ord.take {size : Int} {w : WindowWindow} {first : List WindowEntry} {taken : List (List UInt8)} (h : Ord size w first taken) : Ord size (takeW w).1 first (taken ++ (takeW w).2) := by
  have hle := runN_le w.Next w.L
  have hnx := h.nx
  refine ⟨take_RW h.rw', h.sz, ?_, ?_, fun e => ?_⟩
  · simp only [takeW, List.length_append, List.length_map, List.length_take]; omega
  · have := h.len
    simp only [takeW, List.length_append, List.length_map, List.length_take, List.length_drop]; omega
  · rw [h.mem]
    have hsplit : e ∈ w.L ↔ e ∈ w.L.take (runN w.Next w.L) ∨ e ∈ w.L.drop (runN w.Next w.L) := by rw [← List.mem_append, List.take_append_drop]
    have htake : e ∈ w.L.take (runN w.Next w.L) ↔ ∃ (i : Nat) (hi : i < (taken ++ (takeW w).2).length), taken.length ≤ i ∧ e = ⟨(i : Int), (taken ++ (takeW w).2)[i]⟩ := by
      constructor
      · intro he
        obtain ⟨k, hk, rfl⟩ := List.mem_iff_getElem.1 he
        rw [List.length_take] at hk
        have hs := runN_lt w.Next w.L k (by omega) (by omega)
        refine ⟨taken.length + k, by simp only [takeW, List.length_append, List.length_map, List.length_take]; omega, by omega, ?_⟩
        rw [List.getElem_take, List.getElem_append_right (by omega)]
        simp only [takeW, List.getElem_map, List.getElem_take, Nat.add_sub_cancel_left]
        generalize hx : w.L[k] = x at hs
        cases x
        simp only [WindowEntry.mk.injEq, and_true]
        simp only at hs; omega
      · rintro ⟨i, hi, hge, rfl⟩
        have hi2 : i - taken.length < runN w.Next w.L := by
          simp only [takeW, List.length_append, List.length_map, List.length_take] at hi; omega
        have hs := runN_lt w.Next w.L (i - taken.length) (by omega) hi2
        refine List.mem_iff_getElem.2 ⟨i - taken.length, by rw [List.length_take]; omega, ?_⟩
        rw [List.getElem_take, List.getElem_append_right hge]
        simp only [takeW, List.getElem_map, List.getElem_take]
        generalize hx : w.L[i - taken.length] = x at hs
        cases x
        simp only [WindowEntry.mk.injEq, and_true]
        simp only at hs; omega
    have hold : (∃ (i : Nat) (hi : i < taken.length), e = ⟨(i : Int), taken[i]⟩) ↔ ∃ (i : Nat) (hi : i < (taken ++ (takeW w).2).length), i < taken.length ∧ e = ⟨(i : Int), (taken ++ (takeW w).2)[i]⟩ := by
      constructor
      · rintro ⟨i, hi, rfl⟩
        exact ⟨i, by rw [List.length_append]; omega, hi, by rw [List.getElem_append_left hi]⟩
      · rintro ⟨i, hi, hlt, rfl⟩
        exact ⟨i, hlt, by rw [List.getElem_append_left hlt]⟩
    rw [hsplit, htake, hold]
    constructor
    · rintro (⟨i, hi, _, rfl⟩ | ⟨i, hi, _, rfl⟩ | h)
      · exact .inl ⟨i, hi, rfl⟩
      · exact .inl ⟨i, hi, rfl⟩
      · exact .inr h
    · rintro (⟨i, hi, rfl⟩ | h)
      · by_cases hlt : i < taken.length
        · exact .inl ⟨i, hi, hlt, rfl⟩
        · exact .inr (.inl ⟨i, hi, by omega, rfl⟩)
      · exact .inr (.inr h)
theorem had_eq (st : Int × Int × (List WindowEntry) × (List WindowEntry) × (List (List UInt8)) × Int) (y : L25Word) (hl : st.2.2.2.1.length < 2 ^ 60) : Loop (tL25WindowOrdersL1 st y) (false, 0) = some (st.2.2.2.1.any fun e => decide (e.Slot = y.Slot)) := by
  rw [Loop_any st.2.2.2.1.length (fun k => (st.2.2.2.1[k]?).any fun e => decide (e.Slot = y.Slot)) id (fun k b hk => ?_) (fun b => ?_), id, any_range]
  · unfold tL25WindowOrdersL1
    simp only [show ((k : Int) < (st.2.2.2.1.length : Int)) by omega, if_true, ix_nat hk, List.getElem?_eq_getElem hk, Option.any_some]
    rw [wrap64 (by omega) (by omega)]
    cases b <;> simp
  · unfold tL25WindowOrdersL1
    simp only [show ¬ ((st.2.2.2.1.length : Int) < (st.2.2.2.1.length : Int)) by omega, if_false, id]
theorem found_eq (first : List WindowEntry) (taken : List (List UInt8)) (i : Nat) (hi : i < taken.length) (hl : first.length < 2 ^ 60) : Loop (tL25WindowOrdersL3 (first, taken) (i : Int)) (false, 0) = some (first.any fun e => decide (e.Slot = (i : Int)) && decide (e.Value = taken[i])) := by
  rw [Loop_any first.length (fun k => (first[k]?).any fun e => decide (e.Slot = (i : Int)) && decide (e.Value = taken[i])) id (fun k b hk => ?_) (fun b => ?_), id, any_range]
  · unfold tL25WindowOrdersL3
    simp only [show ((k : Int) < (first.length : Int)) by omega, if_true, ix_nat hk, ix_nat hi, List.getElem?_eq_getElem hk, Option.any_some]
    rw [wrap64 (by omega) (by omega)]
    cases b
    · by_cases hs : first[k].Slot = (i : Int) <;> simp [hs]
    · simp
  · unfold tL25WindowOrdersL3
    simp only [show ¬ ((first.length : Int) < (first.length : Int)) by omega, if_false, id]
theorem windowOrders_all (a : Int) (S : List L25Word) : tL25WindowOrders a S = some true := by
  refine Gives.eq ?_
  unfold tL25WindowOrders
  rw [new_eq]
  by_cases ha : a < 1 ∨ 16 < a
  · simp only [ha, if_true, bd_s, show ¬ ((1 : Int) = 0) by decide, decide_false, Bool.not_false, alive_eq]; exact .mk rfl
  simp only [ha, if_false, bd_s, decide_true, Bool.not_true, Bool.false_eq_true]
  by_cases hS : (100 : Int) < (S.length : Int)
  · simp only [hS, decide_true, if_true, alive_eq, bd_s]; exact .mk rfl
  simp only [hS, decide_false, Bool.false_eq_true, if_false]
  refine Gives.bd (P := fun r => r = .inr true ∨ ∃ w first taken, Ord a w first taken ∧ first.length ≤ 100 ∧ r = .inl (first, taken)) ?_ ?_
  · refine Gives.loop (fun st => ∃ w first taken, ∃ k : Nat, Ord a w first taken ∧ st = (w.Size, w.Next, w.L, first, taken, (k : Int)) ∧ k ≤ S.length ∧ first.length ≤ k) (fun st => S.length - st.2.2.2.2.2.toNat) ?_ ?_
    · refine ⟨⟨a, 0, []⟩, [], [], 0, ⟨RW_mk (by omega) (by omega) (by omega) (by omega) (by simp) (by simp [IncK]), rfl, rfl, rfl, by simp⟩, rfl, by omega, by simp⟩
    · rintro st ⟨w, first, taken, k, hO, rfl, hk, hfk⟩
      have hlen := hO.len
      unfold tL25WindowOrdersL2
      by_cases hlt : k < S.length
      · simp only [show ((k : Int) < (S.length : Int)) by omega, if_true, ix_nat hlt]
        obtain ⟨y, hy⟩ : ∃ y, y = S[k] := ⟨_, rfl⟩
        rw [← hy]
        by_cases hv : (6100 : Int) < (y.Value.length : Int)
        · simp only [hv, if_true, alive_eq, bd_s]; exact .mk (.inl rfl)
        · have hl := hO.learn y.Slot y.Value
          have hL := learn_RW hO.rw' y.Slot y.Value
          simp only [hv, if_false, had_eq (w.Size, w.Next, w.L, first, taken, (k : Int)) y (by show first.length < 2 ^ 60; omega), bd_s, learn_eq hO.rw']
          obtain ⟨nf, hnf⟩ : ∃ nf, nf = (if (learnW w y.Slot y.Value).2 = 0 ∧ (first.any fun e => decide (e.Slot = y.Slot)) = false then first ++ [⟨y.Slot, y.Value⟩] else first) := ⟨_, rfl⟩
          have hnl : nf.length ≤ k + 1 := by
            rw [hnf]; split
            · simp only [List.length_append, List.length_cons, List.length_nil]; omega
            · omega
          rw [← hnf] at hl
          refine Gives.bd (P := fun b => b = decide ((learnW w y.Slot y.Value).2 = 0 ∧ (first.any fun e => decide (e.Slot = y.Slot)) = false)) ?_ ?_
          · by_cases h0 : (learnW w y.Slot y.Value).2 = 0
            · simp only [h0, if_true, true_and]
              cases (first.any fun e => decide (e.Slot = y.Slot)) <;> exact .mk (by simp)
            · simp only [h0, if_false, false_and, decide_false]; exact .mk rfl
          · rintro b rfl
            refine Gives.bd (P := fun x => x = nf) ?_ ?_
            · by_cases hc : (learnW w y.Slot y.Value).2 = 0 ∧ (first.any fun e => decide (e.Slot = y.Slot)) = false
              · simp only [hc, and_self, decide_true, if_true]
                rw [if_pos (by simp only [List.length_cons, List.length_nil]; omega)]
                refine .mk ?_
                rw [hnf, if_pos hc]
              · rw [hnf, if_neg hc, decide_eq_false hc]
                simp only [Bool.false_eq_true, if_false]
                exact .mk rfl
            · rintro x rfl
              have hlen2 := hl.len
              have hnx := RightW.nx1 hL
              have hnx2 := RightW.nx2 hL
              simp only [plW] at hnx hnx2
              have fin : ∀ (v : WindowWindow) (tk : List (List UInt8)), Ord a v x tk → Gives (bd (bd (tL25Plain v) fun rA5 => bd (tR25Right rA5) fun rA6 => if (!rA6) = true then some true else if (!decide (v.Next = (tk.length : Int))) = true then some true else if a < (v.L.length : Int) then some true else some (!decide ((IntKind.wrap .i64 ((v.L.length : Int) + (tk.length : Int))) = (x.length : Int)))) fun w7 =>
                  if w7 = true then (some (.inr (.inr false)) : Option ((Int × Int × (List WindowEntry) × (List WindowEntry) × (List (List UInt8)) × Int) ⊕ (((List WindowEntry) × (List (List UInt8))) ⊕ Bool))) else some (.inl (v.Size, v.Next, v.L, x, tk, IntKind.wrap .i64 ((k : Int) + 1))))
                  (fun z => match z with
                    | .inl s' => (∃ w first taken, ∃ k : Nat, Ord a w first taken ∧ s' = (w.Size, w.Next, w.L, first, taken, (k : Int)) ∧ k ≤ S.length ∧ first.length ≤ k) ∧ S.length - s'.2.2.2.2.2.toNat < S.length - (k : Int).toNat
                    | .inr r => r = .inr true ∨ ∃ w first taken, Ord a w first taken ∧ first.length ≤ 100 ∧ r = .inl (first, taken)) := by
                intro v tk hv
                have h16 := hv.rw'.len16
                have hvl := hv.len
                have hsz := RightW.len hv.rw'
                simp only [plW, List.length_map, hv.sz] at hsz
                obtain ⟨r, hr, hrr⟩ := right_eq (plW v) (by simp only [plW, List.length_map]; omega)
                have hrt : r = true := hrr.2 hv.rw'
                subst hrt
                rw [wrap64 (x := (v.L.length : Int) + (tk.length : Int)) (by omega) (by omega), wrap64 (x := (k : Int) + 1) (by omega) (by omega)]
                simp only [plain_eq v (by omega), bd_s, hr, Bool.not_true, Bool.false_eq_true, if_false, hv.nx, decide_true, show ¬ (a < (v.L.length : Int)) by omega, show (v.L.length : Int) + (tk.length : Int) = (x.length : Int) by omega]
                refine .mk ⟨⟨v, x, tk, k + 1, hv, by rw [hv.nx]; simp, by omega, hnl⟩, by simp only; omega⟩
              cases hT : y.Take with
              | true =>
                have ht := hl.take
                have htl : (takeW (learnW w y.Slot y.Value).1).2.length ≤ (learnW w y.Slot y.Value).1.L.length := by simp only [takeW, List.length_map, List.length_take]; omega
                simp only [if_true, take_eq _ (by omega : (learnW w y.Slot y.Value).1.L.length ≤ 2 ^ 32) hnx (by omega), bd_s]
                rw [if_pos (by omega), bd_s]
                refine (fin _ _ ht).imp fun z hz => ?_
                cases z <;> exact hz
              | false =>
                simp only [Bool.false_eq_true, if_false, bd_s]
                refine (fin _ _ hl).imp fun z hz => ?_
                cases z <;> exact hz
      · simp only [show ¬ ((k : Int) < (S.length : Int)) by omega, if_false]
        exact .mk (.inr ⟨w, first, taken, hO, by omega, rfl⟩)
  · rintro r (rfl | ⟨w, first, taken, hO, hfl, rfl⟩)
    · exact .mk rfl
    · have hlen := hO.len
      have hall : Loop (tL25WindowOrdersL4 (first, taken)) 0 = some (.inl ()) := by
        refine Gives.eq (Gives.count (fun k => (k : Int)) taken.length (fun _ => True) rfl trivial (fun k hk _ => ?_) (fun _ => ?_))
        · unfold tL25WindowOrdersL4
          have hfound : (first.any fun e => decide (e.Slot = (k : Int)) && decide (e.Value = taken[k])) = true := by
            rw [List.any_eq_true]
            exact ⟨⟨(k : Int), taken[k]⟩, (hO.mem _).2 (.inl ⟨k, hk, rfl⟩), by simp⟩
          simp only [show ((k : Int) < (taken.length : Int)) by omega, if_true, found_eq first taken k hk (by omega), bd_s, hfound, Bool.not_true, Bool.false_eq_true, if_false]
          rw [wrap64 (by omega) (by omega)]
          exact .mk ⟨by omega, trivial⟩
        · unfold tL25WindowOrdersL4
          simp only [show ¬ ((taken.length : Int) < (taken.length : Int)) by omega, if_false]
          exact .mk rfl
      simp only [hall, bd_s, alive_eq]
      exact .mk rfl
end Dn.S
