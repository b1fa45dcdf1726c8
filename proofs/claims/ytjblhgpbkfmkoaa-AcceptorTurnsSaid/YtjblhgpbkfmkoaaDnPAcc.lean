import Derived.Test.YtjblhgpbkfmkoaaDnPProof
import Derived.Test.YtjblhgpbkfmkoaaDnYV
/-
  Acceptors: what may be, and what is alike. Conditions: none.
-/
open Go Dn
set_option linter.unusedVariables false
set_option linter.unusedSimpArgs false
namespace Dn.S
def plA (a : AcceptorAcceptor) : R21Acceptor := ⟨plS a.S, a.Me, a.View, a.Has, a.At, a.Value, a.Proof, ⟨a.Votes.L⟩⟩
theorem plainA_eq (a : AcceptorAcceptor) : tL21Plain a = some (plA a) := rfl
theorem votes_eq (l : List ApiAccept) : Gives (tL21Votes l) fun b => b = true → l.length ≤ 40 ∧ ∀ e ∈ l, e.Value.length ≤ 6100 := by
  unfold tL21Votes
  refine Gives.bd (P := fun r => r = .inr false ∨ (r = .inl () ∧ l.length ≤ 40 ∧ ∀ e ∈ l, e.Value.length ≤ 6100)) ?_ ?_
  · refine Gives.count (fun k => (k : Int)) l.length (fun k => k ≤ 40 ∧ ∀ j (hj : j < l.length), j < k → l[j].Value.length ≤ 6100) rfl ⟨by omega, fun j _ h => by omega⟩ (fun k hk hp => ?_) (fun hp => ?_)
    · unfold tL21VotesL1
      simp only [show ((k : Int) < (l.length : Int)) by omega, if_true]
      by_cases h40 : k = 40
      · simp only [show ((k : Int) = 40) by omega, if_true, bd_s]
        exact .mk (.inl rfl)
      · simp only [show ¬ ((k : Int) = 40) by omega, if_false, ix_nat hk, bd_s]
        by_cases hv : (6100 : Int) < (l[k].Value.length : Int)
        · simp only [hv, decide_true, if_true]; exact .mk (.inl rfl)
        · simp only [hv, decide_false, Bool.false_eq_true, if_false]
          rw [wrap64 (by omega) (by omega)]
          refine .mk ⟨by omega, by omega, fun j hj hjk => ?_⟩
          by_cases hjk2 : j = k
          · subst hjk2; omega
          · exact hp.2 j hj (by omega)
    · unfold tL21VotesL1
      simp only [show ¬ ((l.length : Int) < (l.length : Int)) by omega, if_false]
      refine .mk (.inr ⟨rfl, hp.1, fun e he => ?_⟩)
      obtain ⟨k, hk, rfl⟩ := List.mem_iff_getElem.1 he
      exact hp.2 k hk hk
  · rintro r (rfl | ⟨rfl, h⟩)
    · exact .mk (by simp)
    · exact .mk (fun _ => h)
theorem few_eq (a : AcceptorAcceptor) : Gives (tL21Few a) fun b => b = true → a.Value.length ≤ 6100 ∧ a.Proof.length ≤ 40 ∧ a.Votes.L.length ≤ 40 := by
  unfold tL21Few
  obtain ⟨b1, e1, h1⟩ := votes_eq a.Proof
  obtain ⟨b2, e2, h2⟩ := votes_eq a.Votes.L
  simp only [e1, e2, bd_s, bd_id]
  by_cases hv : (a.Value.length : Int) ≤ 6100
  · simp only [hv, if_true]
    cases b1 with
    | false => exact .mk (by simp)
    | true => simp only [if_true]; exact .mk fun h => ⟨by omega, (h1 rfl).1, (h2 h).1⟩
  · simp only [hv, if_false]; exact .mk (by simp)
def newA (s : SizeSize) (me : Int) : AcceptorAcceptor × Int := if SizeOK s ∧ 0 ≤ me ∧ me < nOf s then (⟨s, me, 0, false, 0, [], [], ⟨[]⟩⟩, 0) else (⟨⟨0, 0⟩, 0, 0, false, 0, [], [], ⟨[]⟩⟩, 1)
theorem r21New_eq (s : SizeSize) (me : Int) : tR21New (plS s) me = some (plA (newA s me).1, (newA s me).2) := by
  unfold tR21New newA
  simp only [r07Right_eq, bd_s]
  by_cases hs : SizeOK s
  · simp only [hs, decide_true, Bool.not_true, Bool.false_eq_true, if_false, true_and]
    by_cases h0 : me < 0
    · simp only [h0, if_true, bd_s]; rw [if_neg (by omega)]; rfl
    · simp only [h0, if_false, r07N_eq hs, bd_s]
      by_cases h1 : 3 * s.F + 2 * s.T + 1 ≤ me
      · simp only [h1, decide_true, if_true]; rw [if_neg (by unfold nOf; omega)]; rfl
      · simp only [h1, decide_false, Bool.false_eq_true, if_false]; rw [if_pos (by unfold nOf; omega)]; rfl
  · simp [hs, plA, plS]
theorem accSame_eq (a b : AcceptorAcceptor) (h1 : a.Proof.length < 2 ^ 60) (h2 : a.Votes.L.length < 2 ^ 60) : tAcceptorSame a b = some (decide (a = b)) := by
  obtain ⟨⟨s1, s2⟩, m, v, hs, at_, val, p, ⟨vo⟩⟩ := a
  obtain ⟨⟨t1, t2⟩, m', v', hs', at', val', p', ⟨vo'⟩⟩ := b
  unfold tAcceptorSame
  simp only [tallysame_eq _ _ h1, tallysame_eq _ _ h2, bd_s, bd_id]
  by_cases c1 : s1 = t1 <;> by_cases c2 : s2 = t2 <;> by_cases c3 : m = m' <;> by_cases c4 : v = v' <;> by_cases c5 : hs = hs' <;> by_cases c6 : at_ = at' <;> by_cases c7 : val = val' <;> by_cases c8 : p = p' <;> simp [c1, c2, c3, c4, c5, c6, c7, c8]
theorem r21Same_eq (a b : R21Acceptor) (h1 : a.Proof.length < 2 ^ 60) (h2 : a.Votes.L.length < 2 ^ 60) : tR21Same a b = some (decide (a = b)) := by
  obtain ⟨⟨s1, s2⟩, m, v, hs, at_, val, p, ⟨vo⟩⟩ := a
  obtain ⟨⟨t1, t2⟩, m', v', hs', at', val', p', ⟨vo'⟩⟩ := b
  unfold tR21Same
  simp only [r18same_eq _ _ h1, r18same_eq _ _ h2, bd_s, bd_id]
  by_cases c1 : s1 = t1 <;> by_cases c2 : s2 = t2 <;> by_cases c3 : m = m' <;> by_cases c4 : v = v' <;> by_cases c5 : hs = hs' <;> by_cases c6 : at_ = at' <;> by_cases c7 : val = val' <;> by_cases c8 : p = p' <;> simp [c1, c2, c3, c4, c5, c6, c7, c8]
theorem plA_inj {a b : AcceptorAcceptor} : plA a = plA b ↔ a = b := by
  constructor
  · intro h
    obtain ⟨⟨s1, s2⟩, m, v, hs, at_, val, p, ⟨vo⟩⟩ := a
    obtain ⟨⟨t1, t2⟩, m', v', hs', at', val', p', ⟨vo'⟩⟩ := b
    simp only [plA, plS, R21Acceptor.mk.injEq, R07Size.mk.injEq, R18Tally.mk.injEq] at h
    obtain ⟨⟨h1, h2⟩, h3, h4, h5, h6, h7, h8, h9⟩ := h
    subst h1; subst h2; subst h3; subst h4; subst h5; subst h6; subst h7; subst h8; subst h9; rfl
  · intro h; rw [h]
/-- an acceptor that is right -/
structure LastsA (a : AcceptorAcceptor) : Prop where
  v0 : 0 ≤ a.View
  v1 : a.View ≤ 100000
  has : a.Has = true → 0 ≤ a.At ∧ a.At ≤ a.View ∧ a.Value.length ≤ 6000
  hasnt : a.Has = false → a.At = 0 ∧ a.Value = []
  proof : a.Proof = [] ∨ (RightP a.S a.Proof ∧ ∀ e ∈ a.Proof, e.View ≤ a.View)
structure RightA (a : AcceptorAcceptor) : Prop where
  sz : SizeOK a.S
  me0 : 0 ≤ a.Me
  me1 : a.Me < nOf a.S
  lasts : LastsA a
  votes : RightV a.Votes.L
  all : ∀ e ∈ a.Votes.L, e.By < nOf a.S ∧ e.View = a.View
theorem head_all {s : SizeSize} {p : List ApiAccept} {v : Int} (h : RightP s p) (h0 : 0 < p.length) : (∀ e ∈ p, e.View ≤ v) ↔ p[0].View ≤ v := by
  constructor
  · intro ha; exact ha _ (List.getElem_mem h0)
  · intro ha e he
    have := (h.one e he _ (List.getElem_mem h0)).1
    omega
theorem r21Right_eq (a : AcceptorAcceptor) (hp : a.Proof.length < 2 ^ 32) (hv : a.Votes.L.length < 2 ^ 32) : Gives (tR21Right (plA a)) fun b => b = true ↔ RightA a := by
  unfold tR21Right
  have e0 : tR21New (plA a).S (plA a).Me = some (plA (newA a.S a.Me).1, (newA a.S a.Me).2) := r21New_eq a.S a.Me
  rw [e0]
  simp only [bd_s]
  unfold newA
  by_cases hn : SizeOK a.S ∧ 0 ≤ a.Me ∧ a.Me < nOf a.S
  rotate_left
  · rw [if_neg hn]
    simp only [show ¬ ((1 : Int) = 0) by decide, decide_false, Bool.not_false, if_true, bd_s]
    exact .mk ⟨fun h => (by cases h), fun h => absurd ⟨h.sz, h.me0, h.me1⟩ hn⟩
  rw [if_pos hn]
  obtain ⟨r2, e2, h2⟩ := r18right_eq a.Votes.L (by omega)
  have e2 : tR18Right (plA a).Votes = some r2 := e2
  simp only [decide_true, Bool.not_true, Bool.false_eq_true, if_false, bd_s, e2]
  show Gives (bd (if a.View < 0 then some true else if (100000 : Int) < a.View then some true else some (!r2)) _) _
  by_cases c1 : a.View < 0
  · simp only [c1, if_true, bd_s]; exact .mk ⟨fun h => (by cases h), fun h => by have := h.lasts.v0; omega⟩
  by_cases c2 : (100000 : Int) < a.View
  · simp only [c1, c2, if_true, if_false, bd_s]; exact .mk ⟨fun h => (by cases h), fun h => by have := h.lasts.v1; omega⟩
  simp only [c1, c2, if_false, bd_s]
  cases r2 with
  | false => simp only [Bool.not_false, if_true]; exact .mk ⟨fun h => (by cases h), fun h => by have := h2.2 h.votes; cases this⟩
  | true =>
  simp only [Bool.not_true, Bool.false_eq_true, if_false]
  have fin : (a.Has = true → 0 ≤ a.At ∧ a.At ≤ a.View ∧ a.Value.length ≤ 6000) → (a.Has = false → a.At = 0 ∧ a.Value = []) →
      Gives (bd (if (0 : Int) < ((plA a).Proof.length : Int) then bd (tR19Right (plA a).S (plA a).Proof) fun rA2 => if !rA2 then some true else ix (plA a).Proof 0 fun y => some (decide ((plA a).View < y.View)) else some false) fun w2 => if w2 then some false else bd (Loop (tR21RightL1 (plA a)) 0) fun w3 => match w3 with | .inl p1 => some true | .inr p2 => some p2) fun b => b = true ↔ RightA a := by
    intro g1 g2
    have last : (a.Proof = [] ∨ (RightP a.S a.Proof ∧ ∀ e ∈ a.Proof, e.View ≤ a.View)) → Gives (bd (Loop (tR21RightL1 (plA a)) 0) fun w3 => match w3 with | .inl p1 => some true | .inr p2 => some p2) fun b => b = true ↔ RightA a := by
      intro g3
      refine Gives.bd (Loop_all a.Votes.L.length (fun k => ∃ hk : k < a.Votes.L.length, a.Votes.L[k].By < nOf a.S ∧ a.Votes.L[k].View = a.View) false (fun k hk _ => ?_) ?_) ?_
      · unfold tR21RightL1
        have en : tR07N (plA a).S = some (3 * a.S.F + 2 * a.S.T + 1) := r07N_eq hn.1
        have el : (plA a).Votes.L = a.Votes.L := rfl
        have ew : (plA a).View = a.View := rfl
        simp only [el, ew, show ((k : Int) < (a.Votes.L.length : Int)) by omega, if_true, ix_nat hk, en, bd_s]
        rw [wrap64 (x := (k : Int) + 1) (by omega) (by omega), show (k : Int) + 1 = ((k + 1 : Nat) : Int) by omega]
        by_cases c1 : 3 * a.S.F + 2 * a.S.T + 1 ≤ a.Votes.L[k].By
        · rw [if_pos c1]
          simp only [bd_s, if_true]
          exact ⟨fun ⟨_, h, _⟩ => by unfold nOf at h; omega, fun _ => trivial⟩
        · rw [if_neg c1]
          simp only [bd_s]
          by_cases c2 : a.Votes.L[k].View = a.View
          · rw [decide_eq_true c2]
            simp only [Bool.not_true, Bool.false_eq_true, if_false]
            exact ⟨fun _ => trivial, fun h => absurd ⟨hk, by unfold nOf; omega, c2⟩ h⟩
          · rw [decide_eq_false c2]
            simp only [Bool.not_false, if_true]
            exact ⟨fun ⟨_, _, h⟩ => absurd h c2, fun _ => trivial⟩
      · unfold tR21RightL1
        have el : (plA a).Votes.L = a.Votes.L := rfl
        simp only [el, show ¬ ((a.Votes.L.length : Int) < (a.Votes.L.length : Int)) by omega, if_false]
      · rintro r (⟨rfl, h⟩ | ⟨rfl, k, hk, h⟩)
        · refine .mk ⟨fun _ => ⟨hn.1, hn.2.1, hn.2.2, ⟨by omega, by omega, g1, g2, g3⟩, h2.1 rfl, fun e he => ?_⟩, fun _ => rfl⟩
          obtain ⟨k, hk, rfl⟩ := List.mem_iff_getElem.1 he
          exact (h k hk).2
        · exact .mk ⟨fun h => (by cases h), fun hr => absurd ⟨hk, hr.all _ (List.getElem_mem hk)⟩ h⟩
    show Gives (bd (if (0 : Int) < (a.Proof.length : Int) then bd (tR19Right (plS a.S) a.Proof) fun rA2 => if !rA2 then some true else ix a.Proof 0 fun y => some (decide (a.View < y.View)) else some false) _) _
    by_cases hl : a.Proof.length = 0
    · simp only [hl, Int.natCast_zero, Int.lt_irrefl, if_false, bd_s, Bool.false_eq_true]
      exact last (.inl (List.eq_nil_of_length_eq_zero hl))
    · obtain ⟨r, e, hr⟩ := r19right_eq a.S a.Proof hp
      have h0 : 0 < a.Proof.length := by omega
      simp only [show ((0 : Int) < (a.Proof.length : Int)) by omega, if_true, e, bd_s]
      cases r with
      | false =>
        simp only [Bool.not_false, if_true, bd_s]
        refine .mk ⟨fun h => (by cases h), fun h => ?_⟩
        rcases h.lasts.proof with h1 | ⟨h1, _⟩
        · rw [h1] at hl; exact absurd rfl hl
        · have := hr.2 h1; cases this
      | true =>
        have hrp := hr.1 rfl
        simp only [Bool.not_true, Bool.false_eq_true, if_false, ix_zero h0, bd_s]
        by_cases hw : a.View < a.Proof[0].View
        · simp only [hw, decide_true, if_true]
          refine .mk ⟨fun h => (by cases h), fun h => ?_⟩
          rcases h.lasts.proof with h1 | ⟨_, h1⟩
          · rw [h1] at hl; exact absurd rfl hl
          · have := (head_all hrp h0).1 h1; omega
        · simp only [hw, decide_false, Bool.false_eq_true, if_false]
          exact last (.inr ⟨hrp, (head_all hrp h0).2 (by omega)⟩)
  show Gives (bd (if a.Has then if a.At < 0 then some true else if a.View < a.At then some true else if (6000 : Int) < (a.Value.length : Int) then some true else if !a.Has then (if !decide (a.At = 0) then some true else some (!decide (a.Value = ([] : List UInt8)))) else some false else if !a.Has then (if !decide (a.At = 0) then some true else some (!decide (a.Value = ([] : List UInt8)))) else some false) _) _
  cases hh : a.Has with
  | true =>
    simp only [if_true, Bool.not_true, Bool.false_eq_true, if_false, bd_s]
    by_cases c3 : a.At < 0
    · simp only [c3, if_true, bd_s]; exact .mk ⟨fun h => (by cases h), fun h => by have := (h.lasts.has hh).1; omega⟩
    by_cases c4 : a.View < a.At
    · simp only [c3, c4, if_true, if_false, bd_s]; exact .mk ⟨fun h => (by cases h), fun h => by have := (h.lasts.has hh).2.1; omega⟩
    by_cases c5 : (6000 : Int) < (a.Value.length : Int)
    · simp only [c3, c4, c5, if_true, if_false, bd_s]; exact .mk ⟨fun h => (by cases h), fun h => by have := (h.lasts.has hh).2.2; omega⟩
    simp only [c3, c4, c5, if_false, bd_s, Bool.false_eq_true]
    exact fin (fun _ => by omega) (fun h => by rw [hh] at h; cases h)
  | false =>
    simp only [Bool.false_eq_true, if_false, Bool.not_false, if_true]
    by_cases c3 : a.At = 0
    rotate_left
    · simp only [c3, decide_false, Bool.not_false, if_true, bd_s]; exact .mk ⟨fun h => (by cases h), fun h => absurd (h.lasts.hasnt hh).1 c3⟩
    by_cases c4 : a.Value = []
    rotate_left
    · simp only [c3, c4, decide_true, decide_false, Bool.not_true, Bool.not_false, Bool.false_eq_true, if_true, if_false, bd_s]; exact .mk ⟨fun h => (by cases h), fun h => absurd (h.lasts.hasnt hh).2 c4⟩
    simp only [c3, c4, decide_true, Bool.not_true, Bool.false_eq_true, if_false, bd_s]
    exact fin (fun h => by rw [hh] at h; cases h) (fun _ => ⟨c3, c4⟩)
end Dn.S
