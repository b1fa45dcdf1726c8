import Derived.Test.YteakdlhhamgfbaaDoorDnPShelf3
/-
  Shelves: the place of a path. Conditions: none.
-/
open Go Dn
set_option linter.unusedVariables false
set_option linter.unusedSimpArgs false
namespace Dn.S
/-- a search in what falls in two at a place -/
theorem bsearch_split {α τ : Type} {L : List α} {t : τ} {cmp : α → τ → Option Int} {g : α → Int} {i0 : Nat} (hl : L.length < 2 ^ 60) (hc : ∀ a ∈ L, cmp a t = some (g a)) (hi : i0 ≤ L.length)
    (hb1 : ∀ k (hk : k < L.length), k < i0 → g L[k] < 0) (hb2 : ∀ k (hk : k < L.length), i0 ≤ k → 0 ≤ g L[k]) :
    bsearch L t cmp = some ((i0 : Int), match L[i0]? with | some a => decide (g a = 0) | none => false) := by
  have hloop : Loop (bsL L t cmp) (0, (L.length : Int)) = some (i0 : Int) := by
    refine Gives.eq (Gives.loop (fun st => ∃ i j : Nat, st = ((i : Int), (j : Int)) ∧ i ≤ i0 ∧ i0 ≤ j ∧ j ≤ L.length) (fun st => (st.2 - st.1).toNat) ⟨0, L.length, rfl, Nat.zero_le _, hi, Nat.le_refl _⟩ ?_)
    rintro st ⟨i, j, rfl, hi, hj, hjl⟩
    unfold bsL
    by_cases hlt : i < j
    · have hm : (i + j) / 2 < L.length := by omega
      simp only [show ((i : Int) < (j : Int)) by omega, if_true, show ((0 : Int) ≤ 1) by decide, mid_eq (by omega : i + j < 2 ^ 62), ix_nat hm, hc _ (List.getElem_mem hm), bd_s]
      by_cases hlb : (i + j) / 2 < i0
      · have hk := hb1 _ hm hlb
        simp only [hk, if_true, bd_s]
        rw [wrap64 (by omega) (by omega)]
        exact .mk ⟨⟨(i + j) / 2 + 1, j, by simp, by omega, hj, hjl⟩, by omega⟩
      · have hk := hb2 _ hm (by omega)
        have : ¬ g L[(i + j) / 2] < 0 := by omega
        simp only [this, if_false, bd_s]
        exact .mk ⟨⟨i, (i + j) / 2, rfl, hi, by omega, by omega⟩, by omega⟩
    · simp only [show ¬ ((i : Int) < (j : Int)) by omega, if_false]
      exact .mk (by show (i : Int) = (i0 : Int); omega)
  unfold bsearch
  rw [hloop]
  simp only [bd_s]
  by_cases hlt : i0 < L.length
  · simp only [show ((i0 : Int) < (L.length : Int)) by omega, if_true, ix_nat hlt, hc _ (List.getElem_mem hlt), bd_s, List.getElem?_eq_getElem hlt]
  · simp only [show ¬ ((i0 : Int) < (L.length : Int)) by omega, if_false, bd_s, List.getElem?_eq_none (by omega : L.length ≤ i0)]
theorem place_bs (s : ShelfShelf) (p : List UInt8) : tShelfShelfPlace s p = bsearch s.L p tShelfShelfPlaceF1 := by
  unfold tShelfShelfPlace
  show bd (bsearch s.L p tShelfShelfPlaceF1) (fun rA => some (rA.1, rA.2)) = _
  cases bsearch s.L p tShelfShelfPlaceF1 <;> rfl
theorem placeF1_eq (n : ShelfNode) (p : List UInt8) : tShelfShelfPlaceF1 n p = some (if n.Path = p then 0 else if aheadB n.Path p then -1 else 1) := by
  unfold tShelfShelfPlaceF1
  rw [ahead_eq, bd_s]
  by_cases h : n.Path = p
  · simp [h]
  · cases aheadB n.Path p <;> simp [h]
/-- nodes in order -/
def OrdL (L : List ShelfNode) : Prop := (∀ n ∈ L, rightB n.Path = true) ∧ L.Pairwise fun a b => ltL (namesL a.Path) (namesL b.Path) = true
theorem pair_next {R : ShelfNode → ShelfNode → Prop} (htr : ∀ a b c, R a b → R b c → R a c) : ∀ {L : List ShelfNode}, (∀ k (h : k + 1 < L.length), R L[k] L[k + 1]) → L.Pairwise R := by
  intro L h
  rw [List.pairwise_iff_getElem]
  intro i j hi hj hij
  induction j with
  | zero => omega
  | succ j ih =>
    have h1 := h j hj
    by_cases he : i = j
    · subst he; exact h1
    · exact htr _ _ _ (ih (by omega) (by omega)) h1
theorem shelfB_ord {L : List ShelfNode} (h : shelfB L = true) : OrdL L := by
  unfold shelfB at h
  simp only [Bool.and_eq_true, List.all_eq_true, List.mem_range] at h
  have hk := h.2.2
  refine ⟨fun n hn => ?_, pair_next (R := fun a b => ltL (namesL a.Path) (namesL b.Path) = true) (fun a b c h1 h2 => ltL_trans h1 h2) fun k hk2 => ?_⟩
  · obtain ⟨k, hkl, rfl⟩ := List.mem_iff_getElem.1 hn
    have := hk k hkl
    unfold okK at this
    rw [List.getElem?_eq_getElem hkl] at this
    simp only [Bool.and_eq_true] at this
    exact this.1.1
  · have := hk (k + 1) hk2
    unfold okK at this
    rw [List.getElem?_eq_getElem hk2] at this
    simp only [Bool.and_eq_true, Nat.add_sub_cancel, List.getElem?_eq_getElem (show k < L.length by omega), Bool.or_eq_true, decide_eq_true_eq] at this
    rcases this.2 with h0 | h0
    · omega
    · unfold aheadB at h0
      simp only [Bool.and_eq_true] at h0
      exact h0.2.2
theorem split_at {L : List ShelfNode} (h : OrdL L) (t : List (List UInt8)) : ∃ i0, i0 ≤ L.length ∧ (∀ k (hk : k < L.length), k < i0 → ltL (namesL (L[k]).Path) t = true) ∧ ∀ k (hk : k < L.length), i0 ≤ k → ltL (namesL (L[k]).Path) t = false := by
  replace h := h.2
  induction L with
  | nil => exact ⟨0, Nat.le_refl _, fun k hk => by simp at hk, fun k hk => by simp at hk⟩
  | cons a l ih =>
    have h' := List.pairwise_cons.1 h
    cases ha : ltL (namesL a.Path) t with
    | true =>
      obtain ⟨p, h1, h2, h3⟩ := ih h'.2
      refine ⟨p + 1, by simp; omega, fun k hk hkp => ?_, fun k hk hkp => ?_⟩
      · cases k with
        | zero => exact ha
        | succ k => exact h2 k (by simpa using hk) (by omega)
      · cases k with
        | zero => omega
        | succ k => exact h3 k (by simpa using hk) (by omega)
    | false =>
      refine ⟨0, Nat.zero_le _, fun k hk hkp => by omega, fun k hk _ => ?_⟩
      cases k with
      | zero => exact ha
      | succ k =>
        have hlt := h'.1 (l[k]'(by simpa using hk)) (List.getElem_mem _)
        rw [Bool.eq_false_iff]
        intro hh
        simp only [List.getElem_cons_succ] at hh
        have := ltL_trans hlt hh
        rw [ha] at this; cases this
/-- the place of a path that is right -/
theorem place_ok {s : ShelfShelf} (hs : OrdL s.L) (hl : s.L.length < 2 ^ 40) {p : List UInt8} (hp : rightB p = true) : ∃ i0 : Nat, i0 ≤ s.L.length ∧ tShelfShelfPlace s p = some ((i0 : Int), decide (0 ≤ atI (s.L.map (·.Path)) p)) ∧
    (0 ≤ atI (s.L.map (·.Path)) p → atI (s.L.map (·.Path)) p = i0) ∧ (∀ k (hk : k < s.L.length), k < i0 → ltL (namesL (s.L[k]).Path) (namesL p) = true) ∧ ∀ k (hk : k < s.L.length), i0 ≤ k → ltL (namesL (s.L[k]).Path) (namesL p) = false := by
  obtain ⟨i0, h1, h2, h3⟩ := split_at hs (namesL p)
  have hah : ∀ n ∈ s.L, aheadB n.Path p = ltL (namesL n.Path) (namesL p) := fun n hn => by unfold aheadB; rw [hs.1 n hn, hp]; rfl
  have hne : ∀ k (hk : k < s.L.length), k < i0 → (s.L[k]).Path ≠ p := fun k hk hk0 he => by
    have := h2 k hk hk0
    rw [he, ltL_irr] at this; cases this
  have hbs := bsearch_split (L := s.L) (t := p) (cmp := tShelfShelfPlaceF1) (g := fun n => if n.Path = p then 0 else if aheadB n.Path p then -1 else 1) (i0 := i0) (by omega) (fun n _ => placeF1_eq n p) h1
    (fun k hk hk0 => by
      rw [if_neg (hne k hk hk0), hah _ (List.getElem_mem hk), h2 k hk hk0]; decide)
    (fun k hk hk0 => by
      rw [hah _ (List.getElem_mem hk), h3 k hk hk0]
      split <;> simp)
  -- where it stands, if it does
  have hat : 0 ≤ atI (s.L.map (·.Path)) p → atI (s.L.map (·.Path)) p = i0 ∧ ∃ hk : i0 < s.L.length, (s.L[i0]).Path = p := by
    intro h0
    have hlt := atI_lt h0
    rw [List.length_map] at hlt
    obtain ⟨k, hk, hkp, hkf⟩ : ∃ k, ∃ hk : k < s.L.length, (s.L[k]).Path = p ∧ atI (s.L.map (·.Path)) p = k := by
      unfold atI at h0 ⊢
      cases hf : (s.L.map (·.Path)).findIdx? (fun x => decide (x = p)) with
      | none => rw [hf] at h0; simp at h0
      | some k =>
        have hf' := hf
        rw [List.findIdx?_eq_some_iff_getElem] at hf'
        obtain ⟨hk, hd, _⟩ := hf'
        exact ⟨k, by simpa using hk, by simpa using hd, rfl⟩
    have hki : k = i0 := by
      rcases Nat.lt_trichotomy k i0 with h | h | h
      · exact absurd hkp (hne k hk h)
      · exact h
      · have hi : i0 < s.L.length := by omega
        have := List.pairwise_iff_getElem.1 hs.2 i0 k hi hk h
        rw [hkp, h3 i0 hi (Nat.le_refl _)] at this
        cases this
    subst hki
    exact ⟨hkf, hk, hkp⟩
  refine ⟨i0, h1, ?_, fun h0 => (hat h0).1, h2, h3⟩
  rw [place_bs, hbs]
  congr 2
  by_cases h0 : 0 ≤ atI (s.L.map (·.Path)) p
  · obtain ⟨_, hk, hkp⟩ := hat h0
    rw [List.getElem?_eq_getElem hk, decide_eq_true h0]; simp [hkp]
  · rw [decide_eq_false h0]
    by_cases hk : i0 < s.L.length
    · rw [List.getElem?_eq_getElem hk]
      have hnp : (s.L[i0]).Path ≠ p := by
        intro he
        apply h0
        have : atI (s.L.map (·.Path)) p = i0 := atI_some (by simpa using hk) (by simpa using he) (fun j hj => by simpa using hne j (by omega) hj)
        rw [this]; omega
      simp only [hnp, if_false]
      split <;> rfl
    · rw [List.getElem?_eq_none (by omega)]
def noneN : ShelfNode := ⟨[], [], 0, 0⟩
/-- where a node is, or why it is nowhere -/
def findP (L : List ShelfNode) (p : List UInt8) : Int × Int := if rightB p then (if 0 ≤ atI (L.map (·.Path)) p then (atI (L.map (·.Path)) p, 0) else (0, 6)) else (0, 13)
theorem find_eq {s : ShelfShelf} (hs : OrdL s.L) (hl : s.L.length < 2 ^ 40) (p : List UInt8) : tShelfShelfFind s p = some (findP s.L p) := by
  unfold tShelfShelfFind findP
  rw [right_eq, bd_s]
  cases hp : rightB p with
  | false => rfl
  | true =>
    obtain ⟨i0, _, h1, h2, _⟩ := place_ok hs hl hp
    rw [if_neg (by decide), h1, bd_s, if_pos rfl]
    by_cases h0 : 0 ≤ atI (s.L.map (·.Path)) p
    · rw [decide_eq_true h0, if_pos h0, h2 h0]; simp
    · rw [decide_eq_false h0, if_neg h0]; simp
def getP (L : List ShelfNode) (p : List UInt8) : ShelfNode × Int := if (findP L p).2 = 0 then ((L[(findP L p).1.toNat]?).getD noneN, 0) else (noneN, (findP L p).2)
theorem find_lt {L : List ShelfNode} {p : List UInt8} (h : (findP L p).2 = 0) : 0 ≤ (findP L p).1 ∧ (findP L p).1.toNat < L.length := by
  unfold findP at h ⊢
  cases hp : rightB p with
  | false => rw [hp] at h; simp at h
  | true =>
    rw [hp] at h
    by_cases h0 : 0 ≤ atI (L.map (·.Path)) p
    · simp only [if_true, h0]
      exact ⟨trivial, by simpa using atI_lt h0⟩
    · simp [h0] at h
theorem get_eq {s : ShelfShelf} (hs : OrdL s.L) (hl : s.L.length < 2 ^ 40) (p : List UInt8) : tShelfGet s p = some (getP s.L p) := by
  unfold tShelfGet getP
  rw [find_eq hs hl, bd_s]
  by_cases h : (findP s.L p).2 = 0
  · obtain ⟨h1, h2⟩ := find_lt h
    rw [decide_eq_true h, if_neg (by decide), if_pos h, ix_int h1 h2, List.getElem?_eq_getElem h2]; rfl
  · rw [decide_eq_false h, if_pos (by decide), if_neg h]; rfl
end Dn.S
