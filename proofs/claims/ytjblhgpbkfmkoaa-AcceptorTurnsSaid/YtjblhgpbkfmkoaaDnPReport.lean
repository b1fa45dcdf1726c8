import Derived.Test.YtjblhgpbkfmkoaaDnPProof
import Derived.Test.YtjblhgpbkfmkoaaDnYV
/-
  Certificates: what may be, and what binds. Conditions: none.
-/
open Go Dn
set_option linter.unusedVariables false
set_option linter.unusedSimpArgs false
namespace Dn.S
theorem sizeMost_eq {s : SizeSize} (h : SizeOK s) : tSizeMost s = some (2 * s.F + 2 * s.T + 1) := h.cases (fun s => tSizeMost s = some (2 * s.F + 2 * s.T + 1)) (by decide +kernel)
theorem sizeVouch_eq {s : SizeSize} (h : SizeOK s) : tSizeVouch s = some (s.F + s.T + 1) := h.cases (fun s => tSizeVouch s = some (s.F + s.T + 1)) (by decide +kernel)
theorem r07Most_eq {s : SizeSize} (h : SizeOK s) : tR07Most (plS s) = some (2 * s.F + 2 * s.T + 1) := h.cases (fun s => tR07Most (plS s) = some (2 * s.F + 2 * s.T + 1)) (by decide +kernel)
theorem r07Vouch_eq {s : SizeSize} (h : SizeOK s) : tR07Vouch (plS s) = some (s.F + s.T + 1) := h.cases (fun s => tR07Vouch (plS s) = some (s.F + s.T + 1)) (by decide +kernel)
/-- a proof's view and value -/
def ofP (p : List ApiAccept) : Int × List UInt8 × Bool := match p with | [] => (-1, [], false) | e :: _ => (e.View, e.Value, true)
theorem ofP_head {p : List ApiAccept} (h : 0 < p.length) : (ofP p).1 = p[0].View := by
  cases p with
  | nil => simp at h
  | cons x y => rfl
theorem proofOf_eq (p : List ApiAccept) : tProofOf p = some (ofP p) := by
  cases p with
  | nil => rfl
  | cons e r =>
    unfold tProofOf ofP
    rw [if_neg (by simp; omega)]
    rfl
theorem r19Of_eq (p : List ApiAccept) : tR19Of p = some (ofP p) := proofOf_eq p
theorem proved_eq (r : ApiReport) : tReportProved r = some (ofP r.Proof).1 := by
  unfold tReportProved
  rw [proofOf_eq]
  cases r.Proof <;> rfl
theorem rights_same (s : SizeSize) (p : List ApiAccept) (hl : p.length < 2 ^ 32) : tR19Right (plS s) p = tProofRight s p := by
  obtain ⟨r1, e1, h1⟩ := proofRight_eq s p hl
  obtain ⟨r2, e2, h2⟩ := r19right_eq s p hl
  rw [e1, e2]
  congr 1
  cases r1 <;> cases r2 <;> simp_all
/-- what is no certificate's report -/
theorem may_same (s : SizeSize) (r : ApiReport) (hl : r.Proof.length < 2 ^ 32) : Gives (tReportMay s r) fun b => tR20May (plS s) r = some b ∧ (b = true → 0 ≤ r.By) := by
  unfold tReportMay tR20May
  rw [sizeRight_eq, r07Right_eq, rights_same s _ hl, proved_eq]
  simp only [bd_s]
  by_cases hs : SizeOK s
  rotate_left
  · simp only [hs, decide_false, Bool.not_false, if_true, bd_s]; exact .mk ⟨rfl, fun h => (by cases h)⟩
  simp only [hs, decide_true, Bool.not_true, Bool.false_eq_true, if_false, sizeN_eq hs, r07N_eq hs, bd_s]
  by_cases c1 : r.By < 0
  · simp only [c1, if_true, bd_s]; exact .mk ⟨rfl, fun h => (by cases h)⟩
  by_cases c2 : 3 * s.F + 2 * s.T + 1 ≤ r.By
  · simp only [c1, c2, if_true, if_false, bd_s]; exact .mk ⟨rfl, fun h => (by cases h)⟩
  by_cases c3 : r.For < 1
  · simp only [c1, c2, c3, if_true, if_false, bd_s]; exact .mk ⟨rfl, fun h => (by cases h)⟩
  simp only [c1, c2, c3, if_false, bd_s]
  by_cases c4 : (100000 : Int) < r.For
  · simp only [c4, decide_true, if_true]; exact .mk ⟨rfl, fun h => (by cases h)⟩
  simp only [c4, decide_false, Bool.false_eq_true, if_false]
  have last : Gives (bd (if (r.Proof.length : Int) = 0 then some true else bd (tProofRight s r.Proof) fun rA2 => if rA2 then some (decide ((ofP r.Proof).1 < r.For)) else some false) fun w3 => some w3)
      fun b => (bd (if (r.Proof.length : Int) = 0 then some true else bd (tProofRight s r.Proof) fun rA2 => if rA2 then ix r.Proof 0 fun y => some (decide (y.View < r.For)) else some false) fun w2 => some w2) = some b ∧ (b = true → 0 ≤ r.By) := by
    simp only [bd_id]
    by_cases h0 : (r.Proof.length : Int) = 0
    · simp only [h0, if_true]; exact .mk ⟨rfl, fun _ => by omega⟩
    · simp only [h0, if_false]
      obtain ⟨b, e, _⟩ := proofRight_eq s r.Proof hl
      rw [e]
      simp only [bd_s]
      cases b with
      | false => exact .mk ⟨rfl, fun _ => by omega⟩
      | true =>
        simp only [if_true]
        rw [ix_zero (by omega)]
        rw [← ofP_head]
        exact .mk ⟨rfl, fun _ => by omega⟩
  cases hh : r.Has with
  | true =>
    simp only [if_true, Bool.not_true, Bool.false_eq_true, if_false, bd_s]
    by_cases d1 : r.View < 0
    · simp only [d1, if_true, bd_s]; exact .mk ⟨rfl, fun h => (by cases h)⟩
    by_cases d2 : r.For ≤ r.View
    · simp only [d1, d2, if_true, if_false, bd_s]; exact .mk ⟨rfl, fun h => (by cases h)⟩
    by_cases d3 : (6000 : Int) < (r.Value.length : Int)
    · simp only [d1, d2, d3, if_true, if_false, bd_s, decide_true]; exact .mk ⟨rfl, fun h => (by cases h)⟩
    simp only [d1, d2, d3, if_false, bd_s, decide_false, Bool.false_eq_true]
    exact last
  | false =>
    simp only [Bool.false_eq_true, if_false, Bool.not_false, if_true, bd_s]
    by_cases d1 : r.View = 0
    rotate_left
    · simp only [d1, decide_false, Bool.not_false, if_true, bd_s]; exact .mk ⟨rfl, fun h => (by cases h)⟩
    by_cases d2 : r.Value = []
    rotate_left
    · simp only [d1, d2, decide_true, decide_false, Bool.not_true, Bool.not_false, Bool.false_eq_true, if_true, if_false, bd_s]; exact .mk ⟨rfl, fun h => (by cases h)⟩
    simp only [d1, d2, decide_true, Bool.not_true, Bool.false_eq_true, if_false, bd_s]
    exact last
/-- reports of which one may be as one goes through them -/
def okR (s : SizeSize) (view : Int) (L : List ApiReport) (k : Nat) : Prop := ∃ hk : k < L.length, tReportMay s L[k] = some true ∧ L[k].For = view ∧ (0 < k → (L[k - 1]'(by omega)).By < L[k].By)
def RightRp (s : SizeSize) (view : Int) (L : List ApiReport) : Prop := SizeOK s ∧ (L.length : Int) = 2 * s.F + 2 * s.T + 1 ∧ ∀ k, k < L.length → okR s view L k
theorem repRight_eq (s : SizeSize) (view : Int) (L : List ApiReport) (hp : ∀ r ∈ L, r.Proof.length < 2 ^ 32) (hl : L.length < 2 ^ 32) : Gives (tReportRight s view L) fun b => b = true ↔ RightRp s view L := by
  unfold tReportRight
  rw [sizeRight_eq]
  simp only [bd_s]
  by_cases hs : SizeOK s
  rotate_left
  · simp only [hs, decide_false, Bool.not_false, if_true, bd_s]; exact .mk ⟨fun h => (by cases h), fun h => absurd h.1 hs⟩
  simp only [hs, decide_true, Bool.not_true, Bool.false_eq_true, if_false, sizeMost_eq hs, bd_s]
  by_cases hn : (L.length : Int) = 2 * s.F + 2 * s.T + 1
  rotate_left
  · simp only [hn, decide_false, Bool.not_false, if_true]; exact .mk ⟨fun h => (by cases h), fun h => absurd h.2.1 hn⟩
  simp only [hn, decide_true, Bool.not_true, Bool.false_eq_true, if_false]
  refine Gives.bd (P := fun r => (r = .inl () ∧ ∀ k, k < L.length → okR s view L k) ∨ (r = .inr false ∧ ∃ k, k < L.length ∧ ¬ okR s view L k)) (Gives.count (fun k => (match L[k - 1]? with | some x => if k = 0 then -1 else x.By | none => -1, (k : Int))) L.length (fun k => ∀ j, j < k → okR s view L j) (by cases L <;> rfl) (fun j hj => by omega) (fun k hk hp' => ?_) (fun hp' => ?_)) ?_
  · unfold tReportRightL1
    simp only [show ((k : Int) < (L.length : Int)) by omega, if_true, ix_nat hk]
    obtain ⟨b, e, _, hb⟩ := may_same s L[k] (hp _ (List.getElem_mem hk))
    rw [e]
    simp only [bd_s]
    cases b with
    | false => simp only [Bool.not_false, if_true, bd_s]; exact .mk (.inr ⟨rfl, k, hk, fun ⟨_, h, _⟩ => by rw [e] at h; cases h⟩)
    | true =>
      simp only [Bool.not_true, Bool.false_eq_true, if_false]
      by_cases c1 : L[k].For = view
      rotate_left
      · simp only [c1, decide_false, Bool.not_false, if_true, bd_s]; exact .mk (.inr ⟨rfl, k, hk, fun ⟨_, _, h, _⟩ => c1 h⟩)
      simp only [c1, decide_true, Bool.not_true, Bool.false_eq_true, if_false, bd_s]
      have h0 := hb rfl
      have hst : ∀ x : Int, (match L[k - 1]? with | some x => if k = 0 then -1 else x.By | none => -1) = x → (L[k].By ≤ x ↔ ¬ (0 < k → (L[k - 1]'(by omega)).By < L[k].By)) := by
        intro x hx
        rw [List.getElem?_eq_getElem (by omega)] at hx
        simp only at hx
        by_cases hk0 : k = 0
        · rw [if_pos hk0] at hx; subst hx
          exact ⟨fun h => by omega, fun h => absurd (fun h' => by omega) h⟩
        · rw [if_neg hk0] at hx; rw [← hx]
          exact ⟨fun h h' => by have := h' (by omega); omega, fun h => by
            refine Int.not_lt.1 fun h2 => h fun _ => h2⟩
      generalize hx : (match L[k - 1]? with | some x => if k = 0 then -1 else x.By | none => -1) = x at hst
      have hst := hst x rfl
      by_cases c2 : L[k].By ≤ x
      · simp only [c2, decide_true, if_true]
        exact .mk (.inr ⟨rfl, k, hk, fun ⟨_, _, _, h⟩ => hst.1 c2 h⟩)
      · simp only [c2, decide_false, Bool.false_eq_true, if_false]
        rw [wrap64 (by omega) (by omega)]
        refine .mk ⟨?_, fun j hj => ?_⟩
        · rw [show k + 1 - 1 = k by omega, List.getElem?_eq_getElem hk]
          simp
        · by_cases hjk : j = k
          · subst hjk
            exact ⟨hk, e, c1, fun h => by
              refine Int.not_le.1 fun h2 => c2 (hst.2 fun h3 => ?_)
              have := h3 h; omega⟩
          · exact hp' j (by omega)
  · unfold tReportRightL1
    simp only [show ¬ ((L.length : Int) < (L.length : Int)) by omega, if_false]
    exact .mk (.inl ⟨rfl, hp'⟩)
  · rintro r (⟨rfl, h⟩ | ⟨rfl, k, hk, h⟩)
    · exact .mk ⟨fun _ => ⟨hs, hn, h⟩, fun _ => rfl⟩
    · exact .mk ⟨fun h => (by cases h), fun hr => absurd (hr.2.2 k hk) h⟩
theorem r20Right_eq (s : SizeSize) (view : Int) (L : List ApiReport) (hp : ∀ r ∈ L, r.Proof.length < 2 ^ 32) (hl : L.length < 2 ^ 32) : Gives (tR20Right (plS s) view L) fun b => b = true ↔ RightRp s view L := by
  unfold tR20Right
  rw [r07Right_eq]
  simp only [bd_s]
  by_cases hs : SizeOK s
  rotate_left
  · simp only [hs, decide_false, Bool.not_false, if_true, bd_s]; exact .mk ⟨fun h => (by cases h), fun h => absurd h.1 hs⟩
  simp only [hs, decide_true, Bool.not_true, Bool.false_eq_true, if_false, r07Most_eq hs, bd_s]
  by_cases hn : (L.length : Int) = 2 * s.F + 2 * s.T + 1
  rotate_left
  · simp only [hn, decide_false, Bool.not_false, if_true]; exact .mk ⟨fun h => (by cases h), fun h => absurd h.2.1 hn⟩
  simp only [hn, decide_true, Bool.not_true, Bool.false_eq_true, if_false]
  refine Gives.bd (Loop_all L.length (okR s view L) false (fun k hk _ => ?_) ?_) ?_
  · unfold tR20RightL1
    simp only [show ((k : Int) < (L.length : Int)) by omega, if_true, ix_nat hk]
    obtain ⟨b, e', e, hb⟩ := may_same s L[k] (hp _ (List.getElem_mem hk))
    rw [e]
    simp only [bd_s]
    rw [wrap64 (x := (k : Int) + 1) (by omega) (by omega), show (k : Int) + 1 = ((k + 1 : Nat) : Int) by omega]
    cases b with
    | false => simp only [Bool.not_false, if_true, bd_s]; exact ⟨fun ⟨_, h, _⟩ => (by rw [e'] at h; cases h), fun _ => trivial⟩
    | true =>
      simp only [Bool.not_true, Bool.false_eq_true, if_false]
      by_cases c1 : L[k].For = view
      rotate_left
      · simp only [c1, decide_false, Bool.not_false, if_true, bd_s]; exact ⟨fun ⟨_, _, h, _⟩ => absurd h c1, fun _ => trivial⟩
      simp only [c1, decide_true, Bool.not_true, Bool.false_eq_true, if_false, bd_s]
      by_cases hk0 : k = 0
      · subst hk0
        simp only [Int.natCast_zero, Int.lt_irrefl, if_false, bd_s, Bool.false_eq_true]
        exact ⟨fun _ => trivial, fun h => absurd ⟨hk, e', c1, fun h => by omega⟩ h⟩
      · simp only [show ((0 : Int) < (k : Int)) by omega, if_true]
        rw [wrap64 (by omega) (by omega), show (k : Int) - 1 = ((k - 1 : Nat) : Int) by omega, ix_nat (by omega)]
        simp only [bd_s]
        by_cases c2 : L[k].By ≤ L[k - 1].By
        · simp only [c2, decide_true, if_true]
          exact ⟨fun ⟨_, _, _, h⟩ => by have := h (by omega); omega, fun _ => trivial⟩
        · simp only [c2, decide_false, Bool.false_eq_true, if_false]
          exact ⟨fun _ => trivial, fun h => absurd ⟨hk, e', c1, fun _ => by omega⟩ h⟩
  · unfold tR20RightL1
    simp only [show ¬ ((L.length : Int) < (L.length : Int)) by omega, if_false]
  · rintro r (⟨rfl, h⟩ | ⟨rfl, k, hk, h⟩)
    · exact .mk ⟨fun _ => ⟨hs, hn, h⟩, fun _ => rfl⟩
    · exact .mk ⟨fun h => (by cases h), fun hr => absurd (hr.2.2 k hk) h⟩
end Dn.S
