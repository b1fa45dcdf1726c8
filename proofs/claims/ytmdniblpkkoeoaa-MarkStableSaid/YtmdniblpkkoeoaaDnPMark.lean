import Derived.Test.YtmdniblpkkoeoaaDnMT
import Derived.Test.YtmdniblpkkoeoaaDnMV
import Derived.Test.YtmdniblpkkoeoaaDnC
/-
  Marks: the functions on typed values. Conditions: none.
-/
open Go Dn
set_option linter.unusedVariables false
set_option linter.unusedSimpArgs false
namespace Dn.S
structure SizeOK (s : SizeSize) : Prop where
  f1 : 1 ≤ s.F
  f5 : s.F ≤ 5
  t0 : 0 ≤ s.T
  tf : s.T ≤ s.F
theorem SizeOK_iff (s : SizeSize) : SizeOK s ↔ (1 ≤ s.F ∧ s.F ≤ 5 ∧ 0 ≤ s.T ∧ s.T ≤ s.F) := ⟨fun ⟨a, b, c, d⟩ => ⟨a, b, c, d⟩, fun ⟨a, b, c, d⟩ => ⟨a, b, c, d⟩⟩
instance (s : SizeSize) : Decidable (SizeOK s) := decidable_of_iff _ (SizeOK_iff s).symm
theorem and4 {a b c d P : Prop} [Decidable a] [Decidable b] [Decidable c] [Decidable d] [Decidable P] (h : P ↔ a ∧ b ∧ c ∧ d) : (if a then if b then if c then some (decide d) else some false else some false else some false) = some (decide P) := by
  by_cases ha : a <;> by_cases hb : b <;> by_cases hc : c <;> by_cases hd : d <;> simp [ha, hb, hc, hd, h]
theorem SizeOK.cases {s : SizeSize} (h : SizeOK s) (P : SizeSize → Prop) (hp : ∀ f : Fin 5, ∀ t : Fin 6, (t : Nat) ≤ (f : Nat) + 1 → P ⟨((f : Nat) : Int) + 1, ((t : Nat) : Int)⟩) : P s := by
  obtain ⟨F, T⟩ := s
  obtain ⟨h1, h2, h3, h4⟩ := h
  simp only at h1 h2 h3 h4
  have := hp ⟨(F - 1).toNat, by omega⟩ ⟨T.toNat, by omega⟩ (by simp only; omega)
  simp only at this
  rw [show (((F - 1).toNat : Nat) : Int) + 1 = F by omega, show ((T.toNat : Nat) : Int) = T by omega] at this
  exact this
theorem sizeN_eq {s : SizeSize} (h : SizeOK s) : tSizeN s = some (3 * s.F + 2 * s.T + 1) := h.cases (fun s => tSizeN s = some (3 * s.F + 2 * s.T + 1)) (by decide +kernel)
theorem sizeProof_eq {s : SizeSize} (h : SizeOK s) : tSizeProof s = some (2 * s.F + s.T + 1) := h.cases (fun s => tSizeProof s = some (2 * s.F + s.T + 1)) (by decide +kernel)
theorem sizeWeak_eq {s : SizeSize} (h : SizeOK s) : tSizeWeak s = some (s.F + 1) := h.cases (fun s => tSizeWeak s = some (s.F + 1)) (by decide +kernel)
def plS (s : SizeSize) : R07Size := ⟨s.F, s.T⟩
theorem sizeRightY_eq (s : SizeSize) : tR07Right (plS s) = some (decide (SizeOK s)) := by
  unfold tR07Right plS
  simp only [bd_id]
  exact and4 (SizeOK_iff s)
theorem sizeRight_eq (s : SizeSize) : tSizeRight s = some (decide (SizeOK s)) := by
  have h := sizeRightY_eq s
  unfold tR07Right plS at h
  unfold tSizeRight
  exact h
theorem compareM (x y : Int) : tCmpCompareInt x y = some (cmp3 x y) := by
  simp only [tCmpCompareInt, tCmpIsNaNInt, bd_s, decide_true, Bool.not_true, Bool.false_eq_true, if_false, cmp3]
  split
  · rfl
  · split <;> rfl
abbrev bk (x : MarkMark) : Int := x.By
abbrev ck (x : R26Mark) : Int := x.By
def plX (x : MarkMark) : R26Mark := ⟨x.By, x.Slot, x.Sum⟩
def plM (m : MarkMarks) : R26Marks := ⟨plS m.S, m.L.map plX, m.Stable, m.Sum⟩
def nOf (s : SizeSize) : Int := 3 * s.F + 2 * s.T + 1
def MayX (s : SizeSize) (x : MarkMark) : Prop := 0 ≤ x.By ∧ x.By < nOf s ∧ 1 ≤ x.Slot ∧ x.Slot ≤ 100000
instance (s : SizeSize) (x : MarkMark) : Decidable (MayX s x) := by unfold MayX; infer_instance
structure RM (m : MarkMarks) : Prop where
  sz : SizeOK m.S
  s0 : 0 ≤ m.Stable
  s1 : m.Stable ≤ 100000
  sum : m.Stable = 0 → m.Sum = Hash.zero
  all : ∀ x ∈ m.L, MayX m.S x
  inc : IncK bk m.L
theorem may_eq {m : MarkMarks} (h : SizeOK m.S) (x : MarkMark) : tMarkMarksMay m x = some (decide (MayX m.S x)) := by
  unfold tMarkMarksMay
  simp only [bd_id, sizeN_eq h, bd_s]
  exact and4 Iff.rfl
theorem wr3 {s : SizeSize} (h : SizeOK s) : tR07N (plS s) = some (nOf s) := by
  have := h.f1; have := h.f5; have := h.t0; have := h.tf
  unfold tR07N plS nOf
  simp only
  rw [wrap64 (x := 3 * s.F) (by omega) (by omega), wrap64 (x := 2 * s.T) (by omega) (by omega), wrap64 (x := 3 * s.F + 2 * s.T) (by omega) (by omega), wrap64 (by omega) (by omega)]
theorem mayY_eq {s : SizeSize} (h : SizeOK s) (x : MarkMark) : tR26May (plS s) (plX x) = some (decide (MayX s x)) := by
  unfold tR26May
  simp only [bd_id, wr3 h, bd_s, plX]
  exact and4 Iff.rfl
theorem plainM_eq (m : MarkMarks) (hl : m.L.length ≤ 2 ^ 32) : tL26Plain m = some (plM m) := by
  unfold tL26Plain
  have : Loop (tL26PlainL1 m) (m.S.F, m.S.T, ([] : List R26Mark), m.Stable, m.Sum, 0) = some (m.S.F, m.S.T, m.L.map plX, m.Stable, m.Sum) := by
    refine Gives.eq (Gives.count (fun k => (m.S.F, m.S.T, (m.L.take k).map plX, m.Stable, m.Sum, (k : Int))) m.L.length (fun _ => True) (by simp) trivial (fun k hk _ => ?_) (fun _ => ?_))
    · unfold tL26PlainL1
      simp only [show ((k : Int) < (m.L.length : Int)) by omega, if_true, ix_nat hk, tL26One, bd_s]
      rw [if_pos (by simp only [List.length_map, List.length_take, List.length_cons, List.length_nil]; omega), wrap64 (by omega) (by omega)]
      refine .mk ⟨?_, trivial⟩
      simp only [map_take_succ plX hk, Int.natCast_add, Int.natCast_one, plX]
    · unfold tL26PlainL1
      simp only [show ¬ ((m.L.length : Int) < (m.L.length : Int)) by omega, if_false, List.take_length]
      exact .mk rfl
  simp only [tL26Sized, bd_s, this]
  rfl
theorem rightM_eq (m : MarkMarks) (hl : m.L.length ≤ 2 ^ 32) : Gives (tR26Right (plM m)) fun b => b = true ↔ RM m := by
  unfold tR26Right
  simp only [show (plM m).S = plS m.S from rfl, sizeRightY_eq, bd_s, show (plM m).Stable = m.Stable from rfl, show (plM m).Sum = m.Sum from rfl]
  by_cases h1 : SizeOK m.S
  case neg =>
    simp only [h1, decide_false, Bool.not_false, if_true, bd_s]
    exact .mk ⟨(fun h => by cases h), fun h => absurd h.sz h1⟩
  simp only [h1, decide_true, Bool.not_true, Bool.false_eq_true, if_false]
  by_cases h2 : m.Stable < 0
  · simp only [h2, if_true, bd_s]
    exact .mk ⟨(fun h => by cases h), (fun h => by have := h.s0; omega)⟩
  by_cases h3 : (100000 : Int) < m.Stable
  · simp only [h2, h3, if_true, if_false, bd_s]
    exact .mk ⟨(fun h => by cases h), (fun h => by have := h.s1; omega)⟩
  by_cases h4 : m.Stable = 0 ∧ m.Sum ≠ Hash.zero
  · simp only [h2, h3, h4.1, if_true, if_false, h4.2, decide_false, Bool.not_false, bd_s]
    exact .mk ⟨(fun h => by cases h), (fun h => absurd (h.sum h4.1) h4.2)⟩
  have h5 : (if m.Stable = 0 then some (!decide (m.Sum = Hash.zero)) else some false) = some false := by
    by_cases g : m.Stable = 0
    · have : m.Sum = Hash.zero := Classical.byContradiction fun hh => h4 ⟨g, hh⟩
      simp [g, this]
    · simp [g]
  simp only [h2, h3, if_false, h5, bd_s, Bool.false_eq_true]
  refine Gives.bd (Loop_all m.L.length (fun k => ∃ hk : k < m.L.length, MayX m.S m.L[k] ∧ (0 < k → (m.L[k - 1]'(by omega)).By < m.L[k].By)) false (fun k hk _ => ?_) ?_) ?_
  · unfold tR26RightL1
    have hkl : k < (m.L.map plX).length := by simpa using hk
    have hg : (m.L.map plX)[k] = plX m.L[k] := by simp
    simp only [show (plM m).L = m.L.map plX from rfl, show (plM m).S = plS m.S from rfl, List.length_map, show ((k : Int) < (m.L.length : Int)) by omega, if_true, ix_nat hkl, hg, mayY_eq h1, bd_s]
    rw [wrap64 (x := (k : Int) + 1) (by omega) (by omega), show (k : Int) + 1 = ((k + 1 : Nat) : Int) by omega]
    by_cases g1 : MayX m.S m.L[k]
    case neg =>
      simp only [g1, decide_false, Bool.not_false, if_true, bd_s]
      exact ⟨fun ⟨_, h⟩ => h.1.elim, fun _ => trivial⟩
    simp only [g1, decide_true, Bool.not_true, Bool.false_eq_true, if_false]
    by_cases g5 : k = 0
    · subst g5
      simp only [show ¬ ((0 : Int) < ((0 : Nat) : Int)) by omega, if_false, bd_s, Bool.false_eq_true]
      exact ⟨fun _ => trivial, fun h => absurd ⟨hk, trivial, fun h => by omega⟩ h⟩
    · have hk1 : k - 1 < (m.L.map plX).length := by omega
      have hg1 : (m.L.map plX)[k - 1] = plX (m.L[k - 1]'(by omega)) := by simp
      rw [wrap64 (x := (k : Int) - 1) (by omega) (by omega), show ((k : Int) - 1) = ((k - 1 : Nat) : Int) by omega]
      simp only [show ((0 : Int) < (k : Int)) by omega, if_true, ix_nat hk1, hg1, bd_s, plX]
      by_cases g6 : m.L[k].By ≤ (m.L[k - 1]'(by omega)).By
      · simp only [g6, decide_true, if_true]
        exact ⟨fun ⟨_, h⟩ => by have := h.2 (by omega); omega, fun _ => trivial⟩
      · simp only [g6, decide_false, Bool.false_eq_true, if_false]
        exact ⟨fun _ => trivial, fun h => absurd ⟨hk, trivial, fun _ => by omega⟩ h⟩
  · unfold tR26RightL1
    simp only [show (plM m).L = m.L.map plX from rfl, List.length_map, show ¬ ((m.L.length : Int) < (m.L.length : Int)) by omega, if_false]
  · rintro r (⟨rfl, hall⟩ | ⟨rfl, k, hk, hne⟩)
    · refine .mk ⟨fun _ => ⟨h1, by omega, by omega, fun g => Classical.byContradiction fun hh => h4 ⟨g, hh⟩, fun x hx => ?_, ?_⟩, fun _ => rfl⟩
      · obtain ⟨k, hk, rfl⟩ := List.mem_iff_getElem.1 hx
        exact (hall k hk).2.1
      · unfold IncK
        rw [List.pairwise_iff_getElem]
        intro i j hi hj hij
        induction j with
        | zero => omega
        | succ j ih =>
          obtain ⟨_, _, h⟩ := hall (j + 1) hj
          have h := h (by omega)
          simp only [Nat.add_sub_cancel] at h
          by_cases hij2 : i = j
          · subst hij2; exact h
          · have := ih (by omega) (by omega)
            simp only [bk] at this ⊢; omega
    · refine .mk ⟨(fun h => by cases h), fun h => absurd ⟨hk, h.all _ (List.getElem_mem hk), fun hk0 => h.inc.lt hk (by omega)⟩ hne⟩
theorem RM.len {m : MarkMarks} (h : RM m) : m.L.length ≤ 26 := by
  by_cases hl : m.L.length = 0
  · omega
  · have hge : ∀ k (hk : k < m.L.length), (k : Int) ≤ m.L[k].By := by
      intro k
      induction k with
      | zero => intro hk; have := (h.all _ (List.getElem_mem hk)).1; omega
      | succ k ih =>
        intro hk
        have h1 := ih (by omega)
        have h2 : m.L[k].By < m.L[k + 1].By := h.inc.lt hk (Nat.lt_succ_self k)
        omega
    have h1 := hge (m.L.length - 1) (by omega)
    have h2 := (h.all _ (List.getElem_mem (by omega : m.L.length - 1 < m.L.length))).2.1
    have := h.sz.f5; have := h.sz.tf
    unfold nOf at h2; omega
theorem count_eq (m : MarkMarks) (hl : m.L.length < 2 ^ 60) (q : MarkMark → Bool) {isA : MarkMark → Option Bool} (h : ∀ x, isA x = some (q x)) : tMarkMarksCount m isA = some (m.L.countP q : Int) := by
  unfold tMarkMarksCount
  have : Loop (tMarkMarksCountL1 m isA) (0, 0) = some (m.L.countP q : Int) := by
    refine Gives.eq (Gives.count (fun k => (((m.L.take k).countP q : Int), (k : Int))) m.L.length (fun _ => True) (by simp) trivial (fun k hk _ => ?_) (fun _ => ?_))
    · unfold tMarkMarksCountL1
      have hc := List.countP_le_length (p := q) (l := m.L.take k)
      rw [List.length_take] at hc
      simp only [show ((k : Int) < (m.L.length : Int)) by omega, if_true, ix_nat hk, h, bd_s]
      rw [wrap64 (by omega) (by omega), wrap64 (by omega) (by omega)]
      rw [take_succ hk, List.countP_append, List.countP_singleton]
      cases q m.L[k] <;> exact .mk ⟨by simp, trivial⟩
    · unfold tMarkMarksCountL1
      simp only [show ¬ ((m.L.length : Int) < (m.L.length : Int)) by omega, if_false, List.take_length]
      exact .mk rfl
  rw [this]; rfl
def isSay (slot : Int) (sum : Hash) (x : MarkMark) : Bool := decide (x.Slot = slot) && decide (x.Sum = sum)
theorem say_eq (m : MarkMarks) (hl : m.L.length < 2 ^ 60) (slot : Int) (sum : Hash) : tMarkMarksSay m slot sum = some (m.L.countP (isSay slot sum) : Int) := by
  unfold tMarkMarksSay
  rw [count_eq m hl (isSay slot sum) (fun x => by unfold tMarkMarksSayF1 isSay; by_cases h : x.Slot = slot <;> simp [h])]; rfl
theorem behind_eq (m : MarkMarks) (hl : m.L.length < 2 ^ 60) (slot : Int) : tMarkBehind m slot = some (m.L.countP (fun x => decide (slot ≤ x.Slot)) : Int) := by
  unfold tMarkBehind
  rw [count_eq m hl (fun x => decide (slot ≤ x.Slot)) (isA := fun u => tMarkBehindF1 u slot) (fun x => rfl)]; rfl
theorem countY_eq (m : MarkMarks) (hl : m.L.length < 2 ^ 60) (slot : Int) (sum : Hash) : tR26Count (plM m) slot sum = some (m.L.countP (isSay slot sum) : Int) := by
  unfold tR26Count
  have : Loop (tR26CountL1 (plM m) slot sum) (0, 0) = some (m.L.countP (isSay slot sum) : Int) := by
    refine Gives.eq (Gives.count (fun k => (((m.L.take k).countP (isSay slot sum) : Int), (k : Int))) m.L.length (fun _ => True) (by simp) trivial (fun k hk _ => ?_) (fun _ => ?_))
    · unfold tR26CountL1
      have hkl : k < (m.L.map plX).length := by simpa using hk
      have hg : (m.L.map plX)[k] = plX m.L[k] := by simp
      have hc := List.countP_le_length (p := isSay slot sum) (l := m.L.take k)
      rw [List.length_take] at hc
      simp only [show (plM m).L = m.L.map plX from rfl, List.length_map, show ((k : Int) < (m.L.length : Int)) by omega, if_true, ix_nat hkl, hg, plX]
      rw [wrap64 (by omega) (by omega), wrap64 (by omega) (by omega), take_succ hk, List.countP_append, List.countP_singleton]
      have : isSay slot sum m.L[k] = (decide (m.L[k].Slot = slot) && decide (m.L[k].Sum = sum)) := rfl
      rw [this]
      by_cases g : m.L[k].Slot = slot
      · by_cases g2 : m.L[k].Sum = sum <;> simp only [g, g2, if_true, if_false, decide_true, decide_false, bd_s, Bool.and_self, Bool.and_false, Bool.false_eq_true] <;> exact .mk ⟨by simp, trivial⟩
      · simp only [g, if_false, decide_false, bd_s, Bool.false_and, Bool.false_eq_true]; exact .mk ⟨by simp, trivial⟩
    · unfold tR26CountL1
      simp only [show (plM m).L = m.L.map plX from rfl, List.length_map, show ¬ ((m.L.length : Int) < (m.L.length : Int)) by omega, if_false, List.take_length]
      exact .mk rfl
  rw [this]; rfl
theorem behindY_eq (m : MarkMarks) (hl : m.L.length < 2 ^ 60) (slot : Int) : tR26Behind (plM m) slot = some (m.L.countP (fun x => decide (slot ≤ x.Slot)) : Int) := by
  unfold tR26Behind
  have : Loop (tR26BehindL1 (plM m) slot) (0, 0) = some (m.L.countP (fun x => decide (slot ≤ x.Slot)) : Int) := by
    refine Gives.eq (Gives.count (fun k => (((m.L.take k).countP (fun x => decide (slot ≤ x.Slot)) : Int), (k : Int))) m.L.length (fun _ => True) (by simp) trivial (fun k hk _ => ?_) (fun _ => ?_))
    · unfold tR26BehindL1
      have hkl : k < (m.L.map plX).length := by simpa using hk
      have hg : (m.L.map plX)[k] = plX m.L[k] := by simp
      have hc := List.countP_le_length (p := fun x : MarkMark => decide (slot ≤ x.Slot)) (l := m.L.take k)
      rw [List.length_take] at hc
      simp only [show (plM m).L = m.L.map plX from rfl, List.length_map, show ((k : Int) < (m.L.length : Int)) by omega, if_true, ix_nat hkl, hg, plX]
      rw [wrap64 (by omega) (by omega), wrap64 (by omega) (by omega), take_succ hk, List.countP_append, List.countP_singleton]
      by_cases g : slot ≤ m.L[k].Slot <;> simp only [g, if_true, if_false, decide_true, decide_false, bd_s, Bool.false_eq_true] <;> exact .mk ⟨by simp, trivial⟩
    · unfold tR26BehindL1
      simp only [show (plM m).L = m.L.map plX from rfl, List.length_map, show ¬ ((m.L.length : Int) < (m.L.length : Int)) by omega, if_false, List.take_length]
      exact .mk rfl
  rw [this]; rfl
end Dn.S
