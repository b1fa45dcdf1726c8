import Derived.Test.YtmdniblpkkoeoaaDnWT
import Derived.Test.YtmdniblpkkoeoaaDnC
/-
  Windows: the functions on typed values are what the document says. Conditions: none.
-/
open Go Dn
set_option linter.unusedVariables false
set_option linter.unusedSimpArgs false
namespace Dn.S
theorem isNaN_eq (x : Int) : tCmpIsNaNInt x = some false := by simp [tCmpIsNaNInt]
theorem compare_eq (x y : Int) : tCmpCompareInt x y = some (cmp3 x y) := by
  simp only [tCmpCompareInt, isNaN_eq, bd_s, Bool.false_eq_true, if_false, cmp3]
  split
  · rfl
  · split <;> rfl
abbrev wk (e : WindowEntry) : Int := e.Slot
abbrev rk (e : R25Entry) : Int := e.Slot
def plE (e : WindowEntry) : R25Entry := ⟨e.Slot, e.Value⟩
def plW (w : WindowWindow) : R25Window := ⟨w.Size, w.Next, w.L.map plE⟩
def endW (w : WindowWindow) : Int := if w.Next + w.Size < 100000 then w.Next + w.Size else 100000
structure RightW (a : R25Window) : Prop where
  sz1 : 1 ≤ a.Size
  sz2 : a.Size ≤ 16
  nx1 : 0 ≤ a.Next
  nx2 : a.Next ≤ 100000
  all : ∀ e ∈ a.L, a.Next ≤ e.Slot ∧ e.Slot < a.Next + a.Size ∧ e.Slot < 100000 ∧ e.Value.length ≤ 6000
  inc : IncK rk a.L
theorem at_ge {α : Type} {key : α → Int} {nx : Int} {L : List α} (h1 : ∀ e ∈ L, nx ≤ key e) (h2 : IncK key L) : ∀ k (hk : k < L.length), nx + k ≤ key L[k] := by
  intro k
  induction k with
  | zero => intro hk; have := h1 _ (List.getElem_mem hk); omega
  | succ k ih =>
    intro hk
    have := ih (by omega)
    have := h2.lt hk (Nat.lt_succ_self k)
    omega
theorem RightW.len {a : R25Window} (h : RightW a) : (a.L.length : Int) ≤ a.Size := by
  by_cases hl : a.L.length = 0
  · rw [hl]; have := h.sz1; omega
  · have h1 := at_ge (fun e he => (h.all e he).1) h.inc (a.L.length - 1) (by omega)
    have h2 := (h.all _ (List.getElem_mem (by omega : a.L.length - 1 < a.L.length))).2.1
    omega
theorem inc_map {α β : Type} {f : α → β} {key : α → Int} {key' : β → Int} (h : ∀ x, key' (f x) = key x) (L : List α) : IncK key' (L.map f) ↔ IncK key L := by
  unfold IncK
  rw [List.pairwise_map]
  simp [h]
theorem lb_map {α β : Type} {f : α → β} {key : α → Int} {key' : β → Int} (h : ∀ x, key' (f x) = key x) (L : List α) (s : Int) : lbK key' (L.map f) s = lbK key L s := by
  unfold lbK
  rw [List.countP_map]
  congr 1
  funext x
  simp [h]
theorem has_map {α β : Type} {f : α → β} {key : α → Int} {key' : β → Int} (h : ∀ x, key' (f x) = key x) (L : List α) (s : Int) : hasK key' (L.map f) s = hasK key L s := by
  unfold hasK
  rw [List.any_map]
  congr 1
  funext x
  simp [h]
theorem ins_map {α β : Type} {f : α → β} {key : α → Int} {key' : β → Int} (h : ∀ x, key' (f x) = key x) (L : List α) (a : α) : (insK key L a).map f = insK key' (L.map f) (f a) := by
  unfold insK
  rw [h, lb_map h]
  simp [List.map_take, List.map_drop]
theorem few_eq (w : WindowWindow) : Gives (tL25Few w) fun b => b = true → w.L.length ≤ 40 ∧ ∀ e ∈ w.L, e.Value.length ≤ 6100 := by
  unfold tL25Few
  refine Gives.bd (P := fun r => r = .inr false ∨ (r = .inl () ∧ w.L.length ≤ 40 ∧ ∀ e ∈ w.L, e.Value.length ≤ 6100)) ?_ ?_
  · refine Gives.count (fun k => (k : Int)) w.L.length (fun k => k ≤ 40 ∧ ∀ j (hj : j < w.L.length), j < k → w.L[j].Value.length ≤ 6100) rfl ⟨by omega, fun j _ h => by omega⟩ (fun k hk hp => ?_) (fun hp => ?_)
    · unfold tL25FewL1
      simp only [show ((k : Int) < (w.L.length : Int)) by omega, if_true]
      by_cases h40 : k = 40
      · simp only [show ((k : Int) = 40) by omega, if_true, bd_s]
        exact .mk (.inl rfl)
      · simp only [show ¬ ((k : Int) = 40) by omega, if_false, ix_nat hk, bd_s]
        by_cases hv : (6100 : Int) < (w.L[k].Value.length : Int)
        · simp only [hv, decide_true, if_true]; exact .mk (.inl rfl)
        · simp only [hv, decide_false, Bool.false_eq_true, if_false]
          rw [wrap64 (by omega) (by omega)]
          refine .mk ⟨by omega, by omega, fun j hj hjk => ?_⟩
          by_cases hjk2 : j = k
          · subst hjk2; omega
          · exact hp.2 j hj (by omega)
    · unfold tL25FewL1
      simp only [show ¬ ((w.L.length : Int) < (w.L.length : Int)) by omega, if_false]
      refine .mk (.inr ⟨rfl, hp.1, fun e he => ?_⟩)
      obtain ⟨k, hk, rfl⟩ := List.mem_iff_getElem.1 he
      exact hp.2 k hk hk
  · rintro r (rfl | ⟨rfl, h⟩)
    · exact .mk (by simp)
    · exact .mk (fun _ => h)
theorem plain_eq (w : WindowWindow) (hl : w.L.length ≤ 2 ^ 32) : tL25Plain w = some (plW w) := by
  unfold tL25Plain
  have : Loop (tL25PlainL1 w) (w.Size, w.Next, ([] : List R25Entry), 0) = some (w.Size, w.Next, w.L.map plE) := by
    refine Gives.eq (Gives.count (fun k => (w.Size, w.Next, (w.L.take k).map plE, (k : Int))) w.L.length (fun _ => True) (by simp) trivial (fun k hk _ => ?_) (fun _ => ?_))
    · unfold tL25PlainL1
      simp only [show ((k : Int) < (w.L.length : Int)) by omega, if_true, ix_nat hk]
      rw [if_pos (by simp only [List.length_map, List.length_take, List.length_cons, List.length_nil]; omega), wrap64 (by omega) (by omega)]
      refine .mk ⟨?_, trivial⟩
      simp only [map_take_succ plE hk, Int.natCast_add, Int.natCast_one, plE]
    · unfold tL25PlainL1
      simp only [show ¬ ((w.L.length : Int) < (w.L.length : Int)) by omega, if_false, List.take_length]
      exact .mk rfl
  rw [this]; rfl
theorem chain_inc {α : Type} {key : α → Int} {L : List α} (h : ∀ j (hj : j + 1 < L.length), key L[j] < key L[j + 1]) : IncK key L := by
  unfold IncK
  rw [List.pairwise_iff_getElem]
  intro i j hi hj hij
  induction j with
  | zero => omega
  | succ j ih =>
    have h1 := h j hj
    by_cases hij2 : i = j
    · subst hij2; exact h1
    · exact Int.lt_trans (ih (by omega) (by omega)) h1
theorem right_eq (a : R25Window) (hl : a.L.length ≤ 2 ^ 32) : Gives (tR25Right a) fun b => b = true ↔ RightW a := by
  unfold tR25Right
  by_cases h1 : a.Size < 1
  · simp only [h1, if_true, bd_s]; exact .mk ⟨(fun h => by cases h), (fun h => by have := h.sz1; omega)⟩
  by_cases h2 : (16 : Int) < a.Size
  · simp only [h1, if_false, h2, decide_true, if_true, bd_if, bd_s]
    exact .mk ⟨(fun h => by cases h), (fun h => by have := h.sz2; omega)⟩
  by_cases h3 : a.Next < 0
  · simp only [h1, if_false, h2, decide_false, h3, if_true, bd_if, bd_s]
    exact .mk ⟨(fun h => by cases h), (fun h => by have := h.nx1; omega)⟩
  by_cases h4 : (100000 : Int) < a.Next
  · simp only [h1, if_false, h2, decide_false, h3, h4, decide_true, if_true, bd_if, bd_s]
    exact .mk ⟨(fun h => by cases h), (fun h => by have := h.nx2; omega)⟩
  simp only [h1, if_false, h2, decide_false, h3, h4, bd_if, bd_s, Bool.false_eq_true]
  refine Gives.bd (Loop_all a.L.length (fun k => ∃ hk : k < a.L.length, a.Next ≤ a.L[k].Slot ∧ a.L[k].Slot < a.Next + a.Size ∧ a.L[k].Slot < 100000 ∧ a.L[k].Value.length ≤ 6000 ∧ (0 < k → (a.L[k - 1]'(by omega)).Slot < a.L[k].Slot)) false (fun k hk _ => ?_) ?_) ?_
  · unfold tR25RightL1
    simp only [show ((k : Int) < (a.L.length : Int)) by omega, if_true, ix_nat hk]
    rw [wrap64 (x := a.Next + a.Size) (by omega) (by omega), wrap64 (x := (k : Int) + 1) (by omega) (by omega)]
    have hw : (k : Int) + 1 = ((k + 1 : Nat) : Int) := by omega
    rw [hw]
    by_cases g1 : a.L[k].Slot < a.Next
    · simp only [g1, if_true, bd_s]; exact ⟨fun ⟨_, h⟩ => by omega, fun _ => trivial⟩
    by_cases g2 : a.Next + a.Size ≤ a.L[k].Slot
    · simp only [g1, g2, if_true, if_false, bd_s]; exact ⟨fun ⟨_, h⟩ => by omega, fun _ => trivial⟩
    by_cases g3 : (100000 : Int) ≤ a.L[k].Slot
    · simp only [g1, g2, g3, if_true, if_false, bd_s]; exact ⟨fun ⟨_, h⟩ => by omega, fun _ => trivial⟩
    by_cases g4 : (6000 : Int) < (a.L[k].Value.length : Int)
    · simp only [g1, g2, g3, g4, if_true, if_false, bd_s]; exact ⟨fun ⟨_, h⟩ => by omega, fun _ => trivial⟩
    simp only [g1, g2, g3, g4, if_false]
    by_cases g5 : k = 0
    · subst g5
      simp only [show ¬ ((0 : Int) < ((0 : Nat) : Int)) by omega, if_false, bd_s, Bool.false_eq_true]
      exact ⟨fun _ => trivial, fun h => absurd ⟨hk, by omega, by omega, by omega, by omega, by omega⟩ h⟩
    · have hk1 : k - 1 < a.L.length := by omega
      rw [wrap64 (x := (k : Int) - 1) (by omega) (by omega), show ((k : Int) - 1) = ((k - 1 : Nat) : Int) by omega, ix_nat hk1]
      simp only [show ((0 : Int) < (k : Int)) by omega, if_true, bd_s]
      by_cases g6 : a.L[k].Slot ≤ a.L[k - 1].Slot
      · simp only [g6, decide_true, if_true]; exact ⟨fun ⟨_, h⟩ => by have := h.2.2.2.2 (by omega); omega, fun _ => trivial⟩
      · simp only [g6, decide_false, Bool.false_eq_true, if_false]
        exact ⟨fun _ => trivial, fun h => absurd ⟨hk, by omega, by omega, by omega, by omega, fun _ => by omega⟩ h⟩
  · unfold tR25RightL1
    simp only [show ¬ ((a.L.length : Int) < (a.L.length : Int)) by omega, if_false]
  · rintro r (⟨rfl, hall⟩ | ⟨rfl, k, hk, hne⟩)
    · refine .mk ⟨fun _ => ⟨by omega, by omega, by omega, by omega, fun e he => ?_, chain_inc fun j hj => ?_⟩, fun _ => rfl⟩
      · obtain ⟨k, hk, rfl⟩ := List.mem_iff_getElem.1 he
        obtain ⟨_, h⟩ := hall k hk
        exact ⟨h.1, h.2.1, h.2.2.1, h.2.2.2.1⟩
      · obtain ⟨_, h⟩ := hall (j + 1) hj
        exact h.2.2.2.2 (by omega)
    · refine .mk ⟨(fun h => by cases h), (fun h => absurd ⟨hk, ?_⟩ hne)⟩
      have := h.all _ (List.getElem_mem hk)
      exact ⟨this.1, this.2.1, this.2.2.1, this.2.2.2, fun hk0 => h.inc.lt hk (by omega)⟩
theorem place_eq {w : WindowWindow} (hi : IncK wk w.L) (hl : w.L.length < 2 ^ 60) (s : Int) : tWindowWindowPlace w s = some ((lbK wk w.L s : Int), hasK wk w.L s) := by
  have h := bsearch_eq (key := wk) (cmp := tWindowWindowPlaceF1) hi hl (s := s) (fun a => by simp [tWindowWindowPlaceF1, compare_eq])
  unfold tWindowWindowPlace
  rw [show tSlicesBinarySearchFuncWindowEntryInt w.L s tWindowWindowPlaceF1 = bsearch w.L s tWindowWindowPlaceF1 from rfl, h]
  rfl
theorem end_eq {w : WindowWindow} (h1 : 0 ≤ w.Next) (h2 : w.Next ≤ 100000) (h3 : 0 ≤ w.Size) (h4 : w.Size ≤ 16) : tWindowWindowEnd w = some (endW w) := by
  unfold tWindowWindowEnd
  rw [wrap64 (by omega) (by omega)]
  have : imin (w.Next + w.Size) 100000 = endW w := by
    unfold imin endW
    by_cases h : w.Next + w.Size < 100000
    · rw [if_pos h, if_neg (by omega)]
    · rw [if_neg h]; split <;> omega
  rw [this]
def RW (w : WindowWindow) : Prop := RightW (plW w)
theorem RW.inc {w : WindowWindow} (h : RW w) : IncK wk w.L := (inc_map (f := plE) (key := wk) (key' := rk) (fun _ => rfl) _).1 (RightW.inc h)
theorem RW.len16 {w : WindowWindow} (h : RW w) : w.L.length ≤ 16 := by
  have h1 := RightW.len h
  have h2 := RightW.sz2 h
  simp only [plW, List.length_map] at h1 h2
  omega
theorem RW.all {w : WindowWindow} (h : RW w) : ∀ e ∈ w.L, w.Next ≤ e.Slot ∧ e.Slot < w.Next + w.Size ∧ e.Slot < 100000 ∧ e.Value.length ≤ 6000 := fun e he => RightW.all h (plE e) (List.mem_map.2 ⟨e, he, rfl⟩)
theorem RW.place {w : WindowWindow} (h : RW w) (s : Int) : tWindowWindowPlace w s = some ((lbK wk w.L s : Int), hasK wk w.L s) := place_eq h.inc (by have := h.len16; omega) s
theorem RW.end {w : WindowWindow} (h : RW w) : tWindowWindowEnd w = some (endW w) := end_eq (RightW.nx1 h) (RightW.nx2 h) (by have := RightW.sz1 h; simp only [plW] at this; omega) (RightW.sz2 h)
theorem RW.endle {w : WindowWindow} (h : RW w) : w.Next ≤ endW w ∧ endW w ≤ w.Next + w.Size ∧ endW w ≤ 100000 := by
  have := RightW.sz1 h; have := RightW.nx2 h
  simp only [plW] at *
  unfold endW
  split <;> omega
/-- what a window comes to by a slot that is learned -/
def learnW (w : WindowWindow) (s : Int) (v : List UInt8) : WindowWindow × Int :=
  if s < w.Next then (w, 15) else if endW w ≤ s then (w, 9) else if 6000 < v.length then (w, 5) else
  match w.L.find? fun e => decide (e.Slot = s) with
  | some e => if e.Value = v then (w, 0) else (w, 7)
  | none => (⟨w.Size, w.Next, insK wk w.L ⟨s, v⟩⟩, 0)
theorem find_has {α : Type} {key : α → Int} (L : List α) (s : Int) : hasK key L s = (L.find? fun e => decide (key e = s)).isSome := by
  unfold hasK
  induction L with
  | nil => rfl
  | cons e r ih =>
    rw [List.any_cons, List.find?_cons]
    cases decide (key e = s) <;> simp [ih]
theorem find_at {α : Type} {key : α → Int} {L : List α} {s : Int} {x : α} (hp : IncK key L) (hv : (L.find? fun e => decide (key e = s)) = some x) : ∃ h : lbK key L s < L.length, L[lbK key L s] = x := by
  have h1 : key x = s := by simpa using List.find?_some hv
  obtain ⟨k, hk, rfl⟩ := List.mem_iff_getElem.1 (List.mem_of_find?_eq_some hv)
  have hlb : lbK key L s = k := by
    refine lbK_eq (by omega) (fun j hj hjk => ?_) (fun j hj hkj => ?_)
    · have := hp.lt hk hjk; omega
    · have := hp.le hj hkj; omega
  subst hlb
  exact ⟨hk, rfl⟩
theorem learn_eq {w : WindowWindow} (h : RW w) (s : Int) (v : List UInt8) : tWindowLearn w s v = some (learnW w s v) := by
  have hl := h.len16
  unfold tWindowLearn learnW
  simp only [h.place, h.end, bd_s]
  by_cases h1 : s < w.Next
  · simp [h1]
  by_cases h2 : endW w ≤ s
  · simp [h1, h2]
  by_cases h3 : (6000 : Int) < (v.length : Int)
  · simp only [h1, h2, h3, if_false, if_true, show 6000 < v.length by omega]
  simp only [h1, h2, h3, if_false, show ¬ 6000 < v.length by omega, find_has]
  cases hv : w.L.find? fun e => decide (e.Slot = s) with
  | some x =>
    obtain ⟨hk, hat⟩ := find_at (key := wk) h.inc hv
    simp only [Option.isSome_some, if_true, ix_nat hk, hat, bd_s]
    by_cases hx : x.Value = v <;> simp [hx]
  | none =>
    simp only [Option.isSome_none, if_false, bd_s, Bool.false_eq_true, tClone_eq (by omega : w.L.length * 24 ≤ 2 ^ 46)]
    have := tInsert_lb (key := wk) (L := w.L) (a := (⟨s, v⟩ : WindowEntry)) (by' := 24) (by omega)
    rw [this]; rfl
def openL (w : WindowWindow) (k : Nat) : List Int := ((List.range k).map fun j : Nat => w.Next + (j : Int)).filter fun s => !hasK wk w.L s
theorem openL_succ (w : WindowWindow) (k : Nat) : openL w (k + 1) = openL w k ++ (if hasK wk w.L (w.Next + k) then [] else [w.Next + (k : Int)]) := by
  unfold openL
  rw [List.range_succ, List.map_append, List.filter_append]
  cases h : hasK wk w.L (w.Next + k) <;> simp [h]
theorem openL_len (w : WindowWindow) (k : Nat) : (openL w k).length ≤ k := by
  unfold openL
  refine Nat.le_trans (List.length_filter_le _ _) ?_
  simp
def opens (w : WindowWindow) : List Int := openL w (endW w - w.Next).toNat
theorem open_eq {w : WindowWindow} (h : RW w) : tWindowOpen w = some (opens w) := by
  have he := h.endle
  have hz := RightW.sz2 h
  have hn := RightW.nx1 h
  simp only [plW] at hz hn
  unfold tWindowOpen
  have : Loop (tWindowOpenL1 w) (([] : List Int), w.Next) = some (opens w) := by
    obtain ⟨N, hN⟩ : ∃ N, N = (endW w - w.Next).toNat := ⟨_, rfl⟩
    have hN2 : endW w = w.Next + (N : Int) := by omega
    refine Gives.eq (Gives.count (fun k => (openL w k, w.Next + (k : Int))) N (fun _ => True) (by simp [openL]) trivial (fun k hk _ => ?_) (fun _ => ?_))
    · unfold tWindowOpenL1
      have hol := openL_len w k
      simp only [h.end, bd_s, hN2, show (w.Next + (k : Int) < w.Next + (N : Int)) by omega, if_true, h.place]
      rw [wrap64 (by omega) (by omega)]
      have e1 : w.Next + (k : Int) + 1 = w.Next + ((k + 1 : Nat) : Int) := by omega
      rw [e1, openL_succ]
      cases hh : hasK wk w.L (w.Next + k) with
      | true => simp only [Bool.not_true, Bool.false_eq_true, if_false, bd_s, if_true, List.append_nil]; exact .mk ⟨rfl, trivial⟩
      | false =>
        simp only [Bool.not_false, if_true, Bool.false_eq_true, if_false]
        rw [if_pos (by simp only [List.length_cons, List.length_nil]; omega), bd_s]
        exact .mk ⟨rfl, trivial⟩
    · unfold tWindowOpenL1
      simp only [h.end, bd_s, hN2, show ¬ (w.Next + (N : Int) < w.Next + (N : Int)) by omega, if_false]
      refine .mk ?_
      unfold opens; rw [← hN]
  rw [this]; rfl
/-- so many can be taken -/
def runN : Int → List WindowEntry → Nat
  | nx, e :: r => if e.Slot = nx then runN (nx + 1) r + 1 else 0
  | _, [] => 0
theorem runN_le : ∀ (nx : Int) (L : List WindowEntry), runN nx L ≤ L.length
  | _, [] => by simp [runN]
  | nx, e :: r => by
    have := runN_le (nx + 1) r
    simp only [runN, List.length_cons]
    split <;> omega
theorem runN_lt : ∀ (nx : Int) (L : List WindowEntry) (k : Nat) (hk : k < L.length), k < runN nx L → L[k].Slot = nx + k
  | _, [], _, hk, _ => by simp at hk
  | nx, e :: r, k, hk, h => by
    simp only [runN] at h
    split at h
    · rename_i he
      cases k with
      | zero => simpa using he
      | succ k =>
        have := runN_lt (nx + 1) r k (by simpa using hk) (by omega)
        simp only [List.getElem_cons_succ]
        omega
    · omega
theorem runN_stop : ∀ (nx : Int) (L : List WindowEntry) (hk : runN nx L < L.length), L[runN nx L].Slot ≠ nx + (runN nx L : Nat)
  | _, [], hk => by simp at hk
  | nx, e :: r, hk => by
    simp only [runN] at hk ⊢
    by_cases he : e.Slot = nx
    · simp only [he, if_true] at hk ⊢
      have := runN_stop (nx + 1) r (by simpa using hk)
      simp only [List.getElem_cons_succ]
      omega
    · simp only [he, if_false] at hk ⊢
      simpa using he
def takeW (w : WindowWindow) : WindowWindow × List (List UInt8) := (⟨w.Size, w.Next + (runN w.Next w.L : Nat), w.L.drop (runN w.Next w.L)⟩, (w.L.take (runN w.Next w.L)).map (·.Value))
theorem take_eq (w : WindowWindow) (hl : w.L.length ≤ 2 ^ 32) (h1 : 0 ≤ w.Next) (h2 : w.Next ≤ 2 ^ 40) : tWindowTake w = some (takeW w) := by
  unfold tWindowTake
  obtain ⟨N, hN⟩ : ∃ N, N = runN w.Next w.L := ⟨_, rfl⟩
  have hNl : N ≤ w.L.length := by rw [hN]; exact runN_le _ _
  have : Loop (tWindowTakeL1 w) (w.Size, w.Next, w.L, ([] : List (List UInt8)), 0) = some (w.Size, w.Next + (N : Int), w.L, (w.L.take N).map (·.Value)) := by
    refine Gives.eq (Gives.count (fun k => (w.Size, w.Next + (k : Int), w.L, (w.L.take k).map (·.Value), (k : Int))) N (fun _ => True) (by simp) trivial (fun k hk _ => ?_) (fun _ => ?_))
    · unfold tWindowTakeL1
      simp only [show ((k : Int) < (w.L.length : Int)) by omega, if_true, ix_nat (by omega : k < w.L.length), runN_lt w.Next w.L k (by omega) (by omega), decide_true, Bool.not_true, Bool.false_eq_true, if_false]
      rw [if_pos (by simp only [List.length_map, List.length_take, List.length_cons, List.length_nil]; omega), wrap64 (by omega) (by omega), wrap64 (by omega) (by omega)]
      refine .mk ⟨?_, trivial⟩
      simp only [map_take_succ (·.Value) (by omega : k < w.L.length), Int.natCast_add, Int.natCast_one, Int.add_assoc]
    · unfold tWindowTakeL1
      by_cases hlt : N < w.L.length
      · have hne : ¬ w.L[N].Slot = w.Next + (N : Int) := by subst hN; exact runN_stop _ _ hlt
        simp only [show ((N : Int) < (w.L.length : Int)) by omega, if_true, ix_nat hlt, hne, decide_false, Bool.not_false]
        exact .mk rfl
      · simp only [show ¬ ((N : Int) < (w.L.length : Int)) by omega, if_false]
        exact .mk rfl
  rw [this]
  simp only [bd_s, List.length_map, List.length_take, Nat.min_eq_left hNl, Int.toNat_natCast]
  rw [if_pos (by omega), List.take_length, tClone_eq (by simp only [List.length_drop]; omega)]
  simp only [bd_s, takeW, hN]
theorem new_eq (n : Int) : tWindowNew n = some (if n < 1 ∨ 16 < n then (⟨0, 0, []⟩, 1) else (⟨n, 0, []⟩, 0)) := by
  unfold tWindowNew
  by_cases h1 : n < 1
  · simp [h1]
  · by_cases h2 : (16 : Int) < n <;> simp [h1, h2]
theorem RW_mk {sz nx : Int} {L : List WindowEntry} (h1 : 1 ≤ sz) (h2 : sz ≤ 16) (h3 : 0 ≤ nx) (h4 : nx ≤ 100000) (h5 : ∀ e ∈ L, nx ≤ e.Slot ∧ e.Slot < nx + sz ∧ e.Slot < 100000 ∧ e.Value.length ≤ 6000) (h6 : IncK wk L) : RW ⟨sz, nx, L⟩ :=
  ⟨h1, h2, h3, h4, fun e he => by obtain ⟨x, hx, rfl⟩ := List.mem_map.1 he; exact h5 x hx, (inc_map (f := plE) (key := wk) (key' := rk) (fun _ => rfl) _).2 h6⟩
theorem alive_eq : tL25Alive = some true := by
  have r0 : RW ⟨2, 0, []⟩ := RW_mk (by decide) (by decide) (by decide) (by decide) (by simp) (by simp [IncK])
  have r1 : RW ⟨2, 0, [⟨1, [98]⟩]⟩ := RW_mk (by decide) (by decide) (by decide) (by decide) (by simp) (by simp [IncK])
  have r2 : RW ⟨2, 0, [⟨0, [97]⟩, ⟨1, [98]⟩]⟩ := RW_mk (by decide) (by decide) (by decide) (by decide) (by simp) (by simp [IncK, wk])
  have l1 : learnW ⟨2, 0, []⟩ 1 [98] = (⟨2, 0, [⟨1, [98]⟩]⟩, 0) := by decide
  have l2 : learnW ⟨2, 0, [⟨1, [98]⟩]⟩ 0 [97] = (⟨2, 0, [⟨0, [97]⟩, ⟨1, [98]⟩]⟩, 0) := by decide
  have l3 : learnW ⟨2, 0, [⟨0, [97]⟩, ⟨1, [98]⟩]⟩ 2 [99] = (⟨2, 0, [⟨0, [97]⟩, ⟨1, [98]⟩]⟩, 9) := by decide
  have t4 : takeW ⟨2, 0, [⟨0, [97]⟩, ⟨1, [98]⟩]⟩ = (⟨2, 2, []⟩, [[97], [98]]) := by decide
  have e4 := take_eq ⟨2, 0, [⟨0, [97]⟩, ⟨1, [98]⟩]⟩ (by decide) (by decide) (by decide)
  rw [t4] at e4
  unfold tL25Alive
  rw [new_eq, if_neg (by decide)]
  simp only [bd_s, learn_eq r0, l1, learn_eq r1, l2, learn_eq r2, l3, e4]
  simp [ix]
end Dn.S
