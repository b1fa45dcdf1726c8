import Derived.Test.YtmdniblpkkoeoaaDnPWindow3
/-
  Windows: what is taken and open; laws. Conditions: none.
-/
open Go Dn
set_option linter.unusedVariables false
set_option linter.unusedSimpArgs false
namespace Dn.S
theorem drop_lb {α : Type} {key : α → Int} {L : List α} (h : IncK key L) (s : Int) : (L.filter fun e => decide (s ≤ key e)) = L.drop (lbK key L s) := by
  obtain ⟨h1, h2⟩ := h.lb s
  have e1 : ((L.take (lbK key L s)).filter fun e => decide (s ≤ key e)) = [] := by
    rw [List.filter_eq_nil_iff]
    intro x hx
    obtain ⟨k, hk, rfl⟩ := List.mem_iff_getElem.1 hx
    rw [List.length_take] at hk
    rw [List.getElem_take]
    have := h1 k (by omega) (by omega)
    simp; omega
  have e2 : ((L.drop (lbK key L s)).filter fun e => decide (s ≤ key e)) = L.drop (lbK key L s) := by
    rw [List.filter_eq_self]
    intro x hx
    obtain ⟨k, hk, rfl⟩ := List.mem_iff_getElem.1 hx
    rw [List.length_drop] at hk
    rw [List.getElem_drop]
    exact decide_eq_true (h2 (lbK key L s + k) (by omega) (by omega))
  conv => lhs; rw [← List.take_append_drop (lbK key L s) L]
  rw [List.filter_append, e1, e2, List.nil_append]
theorem find_run {w : WindowWindow} (h : RW w) : (∀ k (hk : k < runN w.Next w.L), (w.L.find? fun e => decide (e.Slot = w.Next + (k : Int))) = some (w.L[k]'(Nat.lt_of_lt_of_le hk (runN_le _ _)))) ∧ (w.L.find? fun e => decide (e.Slot = w.Next + (runN w.Next w.L : Nat))) = none ∧ lbK wk w.L (w.Next + (runN w.Next w.L : Nat)) = runN w.Next w.L := by
  have hle := runN_le w.Next w.L
  have hge := at_ge (key := wk) (fun e he => (h.all e he).1) h.inc
  have uni : ∀ x ∈ w.L, (w.L.find? fun e => decide (e.Slot = x.Slot)) = some x := by
    intro x hx
    cases hf : w.L.find? fun e => decide (e.Slot = x.Slot) with
    | none => rw [List.find?_eq_none] at hf; exact absurd (decide_eq_true rfl) (hf x hx)
    | some y =>
      have hy : y.Slot = x.Slot := by simpa using List.find?_some hf
      obtain ⟨i, hi, rfl⟩ := List.mem_iff_getElem.1 hx
      obtain ⟨j, hj, rfl⟩ := List.mem_iff_getElem.1 (List.mem_of_find?_eq_some hf)
      have hinc := h.inc
      rcases Nat.lt_trichotomy i j with g | g | g
      · have := hinc.lt hj g; simp only [wk] at this; omega
      · subst g; rfl
      · have := hinc.lt hi g; simp only [wk] at this; omega
  have hgt : ∀ k (hk : k < w.L.length), runN w.Next w.L ≤ k → w.Next + (runN w.Next w.L : Nat) < w.L[k].Slot := by
    intro k hk hrk
    have h0 : runN w.Next w.L < w.L.length := by omega
    have h1 := runN_stop w.Next w.L h0
    have h2 := hge _ h0
    have h3 := h.inc.le hk hrk
    simp only [wk] at h2 h3
    omega
  refine ⟨fun k hk => ?_, ?_, ?_⟩
  · have h1 := runN_lt w.Next w.L k (by omega) hk
    rw [← h1]
    exact uni _ (List.getElem_mem _)
  · rw [List.find?_eq_none]
    intro x hx
    obtain ⟨k, hk, rfl⟩ := List.mem_iff_getElem.1 hx
    by_cases hkr : k < runN w.Next w.L
    · have := runN_lt w.Next w.L k hk hkr
      simp; omega
    · have := hgt k hk (by omega)
      simp; omega
  · refine lbK_eq hle (fun k hk hkr => ?_) (fun k hk hkr => ?_)
    · have := runN_lt w.Next w.L k hk hkr; simp only [wk]; omega
    · have := hgt k hk hkr; simp only [wk]; omega
theorem takeY_eq {w : WindowWindow} (h : RW w) : tR25Take (plW w) = some (plW (takeW w).1, (takeW w).2) := by
  have hl := h.len16
  have hn := RightW.nx1 h
  have hn2 := RightW.nx2 h
  simp only [plW] at hn hn2
  obtain ⟨N, hN, f1, f2, f3, hle⟩ : ∃ N, N = runN w.Next w.L ∧ (∀ k (hk : k < N) (hl : k < w.L.length), (w.L.find? fun e => decide (e.Slot = w.Next + (k : Int))) = some w.L[k]) ∧ (w.L.find? fun e => decide (e.Slot = w.Next + (N : Int))) = none ∧ lbK wk w.L (w.Next + (N : Int)) = N ∧ N ≤ w.L.length := by
    obtain ⟨f1, f2, f3⟩ := find_run h
    exact ⟨_, rfl, fun k hk _ => f1 k hk, f2, f3, runN_le _ _⟩
  unfold tR25Take takeW
  rw [← hN]
  have hloop : Loop (tR25TakeL1 (plW w)) (([] : List (List UInt8)), (plW w).Next) = some ((w.L.take N).map (·.Value), w.Next + (N : Int)) := by
    refine Gives.eq (Gives.count (fun k => ((w.L.take k).map (·.Value), w.Next + (k : Int))) N (fun _ => True) (by simp [plW]) trivial (fun k hk _ => ?_) (fun _ => ?_))
    · unfold tR25TakeL1
      have hkl : k < w.L.length := by omega
      simp only [h.has, bd_s, f1 k hk hkl, Bool.not_true, Bool.false_eq_true, if_false]
      rw [if_pos (by simp only [List.length_map, List.length_take, List.length_cons, List.length_nil]; omega), wrap64 (by omega) (by omega)]
      refine .mk ⟨?_, trivial⟩
      simp only [map_take_succ (·.Value) hkl, Int.natCast_add, Int.natCast_one, Int.add_assoc]
    · unfold tR25TakeL1
      simp only [h.has, bd_s, f2, Bool.not_false, if_true]
      exact .mk rfl
  have hloop2 : Loop (tR25TakeL2 (plW w) ((w.L.take N).map (·.Value), w.Next + (N : Int))) (([] : List R25Entry), 0) = some ((w.L.drop N).map plE) := by
    refine Gives.eq (Gives.count (fun k => ((((w.L.map plE).take k).filter fun e => decide (w.Next + (N : Int) ≤ e.Slot)), (k : Int))) w.L.length (fun _ => True) (by simp) trivial (fun k hk _ => ?_) (fun _ => ?_))
    · unfold tR25TakeL2
      have hkl : k < (w.L.map plE).length := by simpa using hk
      have hfl := List.length_filter_le (fun e : R25Entry => decide (w.Next + (N : Int) ≤ e.Slot)) ((w.L.map plE).take k)
      rw [List.length_take] at hfl
      simp only [show (plW w).L = w.L.map plE from rfl, List.length_map, show ((k : Int) < (w.L.length : Int)) by omega, if_true, ix_nat hkl]
      rw [wrap64 (by omega) (by omega)]
      have e1 : (((w.L.map plE).take (k + 1)).filter fun e => decide (w.Next + (N : Int) ≤ e.Slot)) = (((w.L.map plE).take k).filter fun e => decide (w.Next + (N : Int) ≤ e.Slot)) ++ (if w.Next + (N : Int) ≤ (w.L.map plE)[k].Slot then [(w.L.map plE)[k]] else []) := by
        rw [take_succ hkl, List.filter_append]
        congr 1
        rw [List.filter_cons]
        simp
      rw [e1]
      by_cases hc : w.Next + (N : Int) ≤ (w.L.map plE)[k].Slot
      · simp only [hc, if_true]
        rw [if_pos (by simp only [List.length_cons, List.length_nil]; omega)]
        exact .mk ⟨rfl, trivial⟩
      · simp only [hc, if_false, List.append_nil, bd_s]
        exact .mk ⟨rfl, trivial⟩
    · unfold tR25TakeL2
      simp only [show (plW w).L = w.L.map plE from rfl, List.length_map, show ¬ ((w.L.length : Int) < (w.L.length : Int)) by omega, if_false]
      refine .mk ?_
      show (((w.L.map plE).take w.L.length).filter _) = _
      rw [List.take_of_length_le (by simp)]
      have := drop_lb (key := rk) (RightW.inc h) (w.Next + (N : Int))
      simp only [rk, show (plW w).L = w.L.map plE from rfl] at this
      rw [this]
      have h2 := lb_map (f := plE) (key := wk) (key' := rk) (fun _ => rfl) w.L (w.Next + (N : Int))
      rw [show lbK (fun e : R25Entry => e.Slot) (w.L.map plE) (w.Next + (N : Int)) = _ from h2, f3, List.map_drop]
  rw [hloop]
  simp only [bd_s, hloop2]
  rfl
theorem hasW (w : WindowWindow) (s : Int) : hasK wk w.L s = (w.L.find? fun e => decide (e.Slot = s)).isSome := find_has (key := wk) w.L s
theorem openY_eq {w : WindowWindow} (h : RW w) : tR25Open (plW w) = some (opens w) := by
  have he := h.endle
  have hz := RightW.sz2 h
  have hn := RightW.nx1 h
  have hn2 := RightW.nx2 h
  simp only [plW] at hz hn hn2
  unfold tR25Open
  have hz1 := RightW.sz1 h
  simp only [plW] at hz1
  have hw : IntKind.wrap .i64 ((plW w).Next + (plW w).Size) = w.Next + w.Size := by simp only [plW]; exact wrap64 (by omega) (by omega)
  have : Loop (tR25OpenL1 (plW w)) (([] : List Int), (plW w).Next) = some (opens w) := by
    obtain ⟨N, hN⟩ : ∃ N, N = (endW w - w.Next).toNat := ⟨_, rfl⟩
    have hN2 : endW w = w.Next + (N : Int) := by omega
    refine Gives.eq (Gives.count (fun k => (openL w k, w.Next + (k : Int))) N (fun _ => True) (by simp [openL, plW]) trivial (fun k hk _ => ?_) (fun _ => ?_))
    · unfold tR25OpenL1
      have hol := openL_len w k
      have hlt : w.Next + (k : Int) < w.Next + w.Size ∧ w.Next + (k : Int) < 100000 := by unfold endW at hN2; split at hN2 <;> omega
      simp only [hw, hlt.1, hlt.2, if_true, decide_true, bd_s, h.has]
      rw [wrap64 (by omega) (by omega)]
      have e1 : w.Next + (k : Int) + 1 = w.Next + ((k + 1 : Nat) : Int) := by omega
      rw [e1, openL_succ, hasW]
      cases hh : w.L.find? fun e => decide (e.Slot = w.Next + (k : Int)) with
      | some x => simp only [Bool.not_true, Bool.false_eq_true, if_false, bd_s, if_true, List.append_nil, Option.isSome_some]; exact .mk ⟨rfl, trivial⟩
      | none =>
        simp only [Bool.not_false, if_true, Bool.false_eq_true, if_false, Option.isSome_none]
        rw [if_pos (by simp only [List.length_cons, List.length_nil]; omega), bd_s]
        exact .mk ⟨rfl, trivial⟩
    · unfold tR25OpenL1
      have hnl : ¬ (w.Next + (N : Int) < w.Next + w.Size ∧ w.Next + (N : Int) < 100000) := by unfold endW at hN2; split at hN2 <;> omega
      by_cases g1 : w.Next + (N : Int) < w.Next + w.Size
      · have g2 : ¬ w.Next + (N : Int) < 100000 := fun g => hnl ⟨g1, g⟩
        simp only [hw, g1, g2, if_true, decide_false, bd_s, Bool.false_eq_true, if_false]
        refine .mk ?_
        unfold opens; rw [← hN]
      · simp only [hw, g1, if_false, bd_s, Bool.false_eq_true]
        refine .mk ?_
        unfold opens; rw [← hN]
  rw [this]; rfl
theorem learn_len {w : WindowWindow} (s : Int) (v : List UInt8) : (learnW w s v).1.L.length ≤ w.L.length + 1 := by
  unfold learnW
  split
  · simp
  split
  · simp
  split
  · simp
  split
  · split <;> simp
  · simp only [ins_len]; omega
theorem windowTurns_all (w : WindowWindow) (s : Int) (v : List UInt8) : tL25WindowTurns w s v = some true := by
  refine Gives.eq ?_
  unfold tL25WindowTurns
  refine Gives.bd (P := fun b => b = false → RW w ∧ w.L.length ≤ 40) ?_ fun b hb => ?_
  · refine Gives.bd (few_eq w) fun b hb => ?_
    cases b with
    | false => exact .mk (by simp)
    | true =>
      obtain ⟨h1, _⟩ := hb rfl
      simp only [Bool.not_true, Bool.false_eq_true, if_false]
      refine Gives.ite (fun _ => .mk (by simp)) fun _ => ?_
      simp only [plain_eq w (by omega), bd_s]
      refine Gives.bd (right_eq (plW w) (by simp only [plW, List.length_map]; omega)) fun b hb => .mk fun h => ⟨hb.1 (by simpa using h), h1⟩
  cases b with
  | true => simp only [if_true, alive_eq, bd_s]; exact .mk rfl
  | false =>
    obtain ⟨hr, hl⟩ := hb rfl
    have hl16 := hr.len16
    have hn := RightW.nx1 hr
    have hn2 := RightW.nx2 hr
    simp only [plW] at hn hn2
    have hll := learn_len (w := w) s v
    have htl : (takeW w).1.L.length ≤ w.L.length := by simp only [takeW, List.length_drop]; omega
    have htv : (takeW w).2.length ≤ w.L.length := by simp only [takeW, List.length_map, List.length_take]; omega
    have hol : (opens w).length ≤ 16 := by have := opens_count hr; have := hr.endle; have := RightW.sz2 hr; simp only [plW] at this; omega
    simp only [Bool.false_eq_true, if_false, plain_eq w (by omega), bd_s, learn_eq hr, learnY_eq hr, take_eq w (by omega) hn (by omega), takeY_eq hr, plain_eq (learnW w s v).1 (by omega), plain_eq (takeW w).1 (by omega),
      sameY_eq (plW (learnW w s v).1) _ (by simp only [plW, List.length_map]; omega), sameY_eq (plW (takeW w).1) _ (by simp only [plW, List.length_map]; omega), sameY_eq (plW w) _ (by simp only [plW, List.length_map]; omega), strings_eq (takeW w).2 _ (by omega),
      open_eq hr, openY_eq hr, ints_eq (opens w) _ (by omega), alive_eq, decide_true, if_true]
    exact .mk rfl
theorem rightW_eq (w : WindowWindow) (hl : w.L.length ≤ 2 ^ 32) : Gives (tWindowRight w) fun b => b = true ↔ RW w := by
  unfold tWindowRight
  have hmem : ∀ e ∈ w.L, plE e ∈ (plW w).L := fun e he => List.mem_map.2 ⟨e, he, rfl⟩
  by_cases h1 : w.Size < 1 ∨ 16 < w.Size
  · simp only [new_eq, h1, if_true, bd_s, show ¬ ((1 : Int) = 0) by decide, decide_false, Bool.not_false]
    exact .mk ⟨(fun h => by cases h), (fun h => by have := RightW.sz1 h; have := RightW.sz2 h; simp only [plW] at *; omega)⟩
  simp only [new_eq, h1, if_false, bd_s, decide_true, Bool.not_true, Bool.false_eq_true]
  by_cases h3 : w.Next < 0
  · simp only [h3, if_true, bd_s]
    exact .mk ⟨(fun h => by cases h), (fun h => by have := RightW.nx1 h; simp only [plW] at *; omega)⟩
  by_cases h4 : (100000 : Int) < w.Next
  · simp only [h3, if_false, h4, decide_true, if_true, bd_s]
    exact .mk ⟨(fun h => by cases h), (fun h => by have := RightW.nx2 h; simp only [plW] at *; omega)⟩
  simp only [h3, if_false, h4, decide_false, bd_s, Bool.false_eq_true]
  have hend := end_eq (w := w) (by omega) (by omega) (by omega) (by omega)
  have hele : endW w ≤ w.Next + w.Size ∧ endW w ≤ 100000 ∧ (w.Next + w.Size ≤ endW w ∨ (100000 : Int) ≤ endW w) := by unfold endW; split <;> omega
  refine Gives.bd (P := fun r => (r = .inl () ∧ RW w) ∨ (r = .inr false ∧ ¬ RW w)) ?_ ?_
  · refine Gives.count (fun k => (if h : 0 < k ∧ k - 1 < w.L.length then w.L[k - 1].Slot + 1 else w.Next, (k : Int))) w.L.length
      (fun k => (∀ j (hj : j < w.L.length), j < k → w.Next ≤ w.L[j].Slot ∧ w.L[j].Slot < w.Next + w.Size ∧ w.L[j].Slot < 100000 ∧ w.L[j].Value.length ≤ 6000) ∧ ∀ j (hj : j + 1 < w.L.length), j + 1 < k → w.L[j].Slot < w.L[j + 1].Slot) ?_ ⟨fun j _ h => by omega, fun j _ h => by omega⟩ (fun k hk hp => ?_) (fun hp => ?_)
    · simp
    · unfold tWindowRightL1
      obtain ⟨hp1, hp2⟩ := hp
      simp only [show ((k : Int) < (w.L.length : Int)) by omega, if_true, ix_nat hk, hend, bd_s]
      -- the least that may be
      obtain ⟨lo, hlo, hlo1, hlo2⟩ : ∃ lo : Int, (if h : 0 < k ∧ k - 1 < w.L.length then w.L[k - 1].Slot + 1 else w.Next) = lo ∧ w.Next ≤ lo ∧ (∀ h : 0 < k, lo = (w.L[k - 1]'(by omega)).Slot + 1) := by
        refine ⟨_, rfl, ?_, ?_⟩
        · split
          · rename_i h
            have := hp1 (k - 1) h.2 (by omega); omega
          · omega
        · intro h; rw [dif_pos ⟨h, by omega⟩]
      rw [hlo]
      have hbad : ¬ (lo ≤ w.L[k].Slot ∧ w.L[k].Slot < endW w ∧ (w.L[k].Value.length : Int) ≤ 6000) → ¬ RW w := by
        intro hb hr
        have ha := hr.all _ (List.getElem_mem hk)
        refine hb ⟨?_, by omega, by omega⟩
        by_cases hk0 : 0 < k
        · have := hr.inc.lt hk (show k - 1 < k by omega)
          simp only [wk] at this
          rw [hlo2 hk0]; omega
        · have hk0 : k = 0 := by omega
          subst hk0
          simp only [show ¬ (0 < 0) by omega, false_and, dif_neg, not_false_eq_true] at hlo
          omega
      by_cases g1 : w.L[k].Slot < lo
      · simp only [g1, if_true, bd_s]; exact .mk (.inr ⟨rfl, hbad (by omega)⟩)
      by_cases g2 : endW w ≤ w.L[k].Slot
      · simp only [g1, g2, if_true, if_false, bd_s]; exact .mk (.inr ⟨rfl, hbad (by omega)⟩)
      by_cases g3 : (6000 : Int) < (w.L[k].Value.length : Int)
      · simp only [g1, g2, g3, if_true, if_false, bd_s, decide_true]; exact .mk (.inr ⟨rfl, hbad (by omega)⟩)
      simp only [g1, g2, g3, if_false, bd_s, decide_false, Bool.false_eq_true]
      rw [wrap64 (x := w.L[k].Slot + 1) (by omega) (by omega), wrap64 (by omega) (by omega)]
      refine .mk ⟨?_, fun j hj hjk => ?_, fun j hj hjk => ?_⟩
      · have : (0 < k + 1 ∧ k + 1 - 1 < w.L.length) := ⟨by omega, by omega⟩
        rw [dif_pos this]; simp
      · by_cases hjk2 : j = k
        · subst hjk2; omega
        · exact hp1 j hj (by omega)
      · by_cases hjk2 : j + 1 = k
        · subst hjk2
          have := hlo2 (by omega)
          simp only [Nat.add_sub_cancel] at this
          omega
        · exact hp2 j hj (by omega)
    · unfold tWindowRightL1
      simp only [show ¬ ((w.L.length : Int) < (w.L.length : Int)) by omega, if_false]
      refine .mk (.inl ⟨rfl, RW_mk (by omega) (by omega) (by omega) (by omega) (fun e he => ?_) (chain_inc fun j hj => hp.2 j hj (by omega))⟩)
      obtain ⟨k, hk, rfl⟩ := List.mem_iff_getElem.1 he
      exact hp.1 k hk hk
  · rintro r (⟨rfl, h⟩ | ⟨rfl, h⟩)
    · exact .mk ⟨fun _ => h, fun _ => rfl⟩
    · exact .mk ⟨(fun h => by cases h), fun hh => absurd hh h⟩
theorem plE_inj {x y : WindowEntry} (h : plE x = plE y) : x = y := by cases x; cases y; simp_all [plE]
theorem plW_inj {a b : WindowWindow} : plW a = plW b ↔ a = b := by
  constructor
  · intro h
    have h1 : a.Size = b.Size := congrArg R25Window.Size h
    have h2 : a.Next = b.Next := congrArg R25Window.Next h
    have h3 : a.L.map plE = b.L.map plE := congrArg R25Window.L h
    have h4 : a.L = b.L := by
      rw [List.map_inj_right (fun x y => plE_inj)] at h3; exact h3
    cases a; cases b; simp_all
  · rintro rfl; rfl
theorem sameW_eq (a b : WindowWindow) (hl : a.L.length < 2 ^ 60) : tWindowSame a b = some (decide (a = b)) := by
  unfold tWindowSame
  have heq : tSlicesEqualWindowEntry a.L b.L = some (decide (a.L = b.L)) := by
    unfold tSlicesEqualWindowEntry
    by_cases h3 : a.L.length = b.L.length
    · simp only [h3, decide_true, Bool.not_true, Bool.false_eq_true, if_false, bd_s]
      have hloop : Loop (tSlicesEqualWindowEntryL1 a.L b.L) 0 = some (if a.L = b.L then .inl () else .inr false) := by
        refine Loop_same h3 (fun k ha hb => ?_) ?_
        · unfold tSlicesEqualWindowEntryL1
          simp only [show ((k : Int) < (a.L.length : Int)) by omega, if_true, ix_nat ha, ix_nat hb]
          rw [wrap64 (by omega) (by omega)]
          have : (a.L[k] = b.L[k]) ↔ (a.L[k].Slot = b.L[k].Slot ∧ a.L[k].Value = b.L[k].Value) := by
            generalize a.L[k] = x; generalize b.L[k] = y
            cases x; cases y; simp
          by_cases g1 : a.L[k].Slot = b.L[k].Slot <;> by_cases g2 : a.L[k].Value = b.L[k].Value <;> simp [this, g1, g2]
        · unfold tSlicesEqualWindowEntryL1
          simp only [show ¬ ((a.L.length : Int) < (a.L.length : Int)) by omega, if_false]
      rw [hloop]
      by_cases he : a.L = b.L <;> simp [he]
    · have : ¬ a.L = b.L := fun h => h3 (by rw [h])
      simp [this, show ¬ ((a.L.length : Int) = (b.L.length : Int)) by omega]
  simp only [heq, bd_s]
  by_cases h1 : a.Size = b.Size <;> by_cases h2 : a.Next = b.Next <;> by_cases h3 : a.L = b.L <;> simp [h1, h2, h3] <;> (cases a; cases b; simp_all)
theorem newY_eq (n : Int) : tR25New n = some (if n < 1 ∨ 16 < n then (⟨0, 0, []⟩, 1) else (⟨n, 0, []⟩, 0)) := by
  unfold tR25New
  by_cases h1 : n < 1
  · simp [h1]
  · by_cases h2 : (16 : Int) < n <;> simp [h1, h2]
theorem windowMay_all (a b : WindowWindow) (n : Int) : tL25WindowMay a b n = some true := by
  refine Gives.eq ?_
  unfold tL25WindowMay
  refine Gives.bd (P := fun x => x = false → a.L.length ≤ 40 ∧ b.L.length ≤ 40) ?_ fun x hb => ?_
  · refine Gives.bd (few_eq a) fun x hx => ?_
    cases x with
    | false => exact .mk (by simp)
    | true =>
      obtain ⟨h1, _⟩ := hx rfl
      simp only [Bool.not_true, Bool.false_eq_true, if_false]
      exact Gives.bd (few_eq b) fun y hy => .mk fun h => ⟨h1, (hy (by simpa using h)).1⟩
  cases x with
  | true => simp only [if_true, alive_eq, bd_s]; exact .mk rfl
  | false =>
    obtain ⟨ha, hb⟩ := hb rfl
    have e1 : tL25Plain (if n < 1 ∨ 16 < n then ((⟨0, 0, []⟩ : WindowWindow), (1 : Int)) else (⟨n, 0, []⟩, 0)).1 = some (if n < 1 ∨ 16 < n then ((⟨0, 0, []⟩ : R25Window), (1 : Int)) else (⟨n, 0, []⟩, 0)).1 := by
      rw [plain_eq _ (by split <;> simp)]
      split <;> rfl
    have e2 : (if n < 1 ∨ 16 < n then ((⟨0, 0, []⟩ : WindowWindow), (1 : Int)) else (⟨n, 0, []⟩, 0)).2 = (if n < 1 ∨ 16 < n then ((⟨0, 0, []⟩ : R25Window), (1 : Int)) else (⟨n, 0, []⟩, 0)).2 := by split <;> rfl
    obtain ⟨r1, h1, g1⟩ := rightW_eq a (by omega)
    obtain ⟨r2, h2, g2⟩ := right_eq (plW a) (by simp only [plW, List.length_map]; omega)
    have hrr : r1 = r2 := Bool.eq_iff_iff.2 (g1.trans g2.symm)
    have hss : decide (a = b) = decide (plW a = plW b) := decide_eq_decide.2 plW_inj.symm
    simp only [Bool.false_eq_true, if_false, new_eq, newY_eq, bd_s, alive_eq, if_true, h1, plain_eq a (by omega), plain_eq b (by omega), h2, hrr, sameW_eq a b (by omega), sameY_eq (plW a) _ (by simp only [plW, List.length_map]; omega), hss, e1]
    rw [sameY_eq _ _ (by split <;> simp), bd_s]
    simp only [decide_true, if_true, e2]
    exact .mk rfl
end Dn.S
