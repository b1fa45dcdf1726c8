import Derived.Test.YteakdlhhamgfbaaDoorDnPPath5
/-
  Shelves: what the document says of paths; where a path stands. Conditions: none.
-/
open Go Dn
set_option linter.unusedVariables false
set_option linter.unusedSimpArgs false
namespace Dn.S
/-- the document's order is the same -/
theorem r08ahead_eq (p q : List UInt8) : tR08Ahead p q = some (aheadB p q) := by
  unfold tR08Ahead aheadB
  rw [r08names_eq, bd_s, r08names_eq, bd_s]
  cases hp : rightB p with
  | false => simp [bd_s]
  | true =>
    cases hq : rightB q with
    | false => simp [bd_s]
    | true =>
      obtain ⟨_, _, hp3, _⟩ := rightB_len hp
      obtain ⟨_, _, hq3, _⟩ := rightB_len hq
      simp only [if_true, decide_true, Bool.not_true, Bool.false_eq_true, if_false, bd_s, Bool.true_and]
      generalize namesL p = a at *
      generalize namesL q = b at *
      obtain ⟨r, e, hr⟩ : ∃ r, Loop (tR08AheadL1 (a, 0) (b, 0)) 0 = some r ∧ (match r with | .inl () => ltL a b = decide (a.length < b.length) | .inr c => c = ltL a b) := by
        refine Gives.count (fun k => (k : Int)) (min a.length b.length) (fun k => a.take k = b.take k) rfl rfl (fun k hk hp => ?_) (fun hp => ?_)
        · have ha : k < a.length := by omega
          have hb : k < b.length := by omega
          have hlt : ltL a b = ltL (a.drop k) (b.drop k) := by
            have := ltL_app (a.take k) (a.drop k) (b.drop k)
            rw [List.take_append_drop, hp, List.take_append_drop] at this
            exact this
          rw [List.drop_eq_getElem_cons ha, List.drop_eq_getElem_cons hb] at hlt
          simp only [ltL] at hlt
          unfold tR08AheadL1
          dsimp only
          rw [if_pos (by omega), bd_s, decide_eq_true (by omega), if_pos rfl, ix_nat ha, ix_nat hb]
          by_cases h2 : a[k] = b[k]
          · simp only [h2, decide_true, Bool.not_true, Bool.false_eq_true, if_false]
            rw [wrap64 (by omega) (by omega)]
            refine .mk ⟨by omega, ?_⟩
            rw [take_succ ha, take_succ hb, hp, h2]
          · simp only [h2, decide_false, Bool.not_false, if_true, ix_nat ha, ix_nat hb]
            refine .mk ?_
            show Op.bytesLess a[k] b[k] = ltL a b
            rw [hlt]; simp [h2]
        · unfold tR08AheadL1
          dsimp only
          have hw : (if ((min a.length b.length : Nat) : Int) < (a.length : Int) then some (decide (((min a.length b.length : Nat) : Int) < (b.length : Int))) else some false) = some false := by
            split
            · rw [decide_eq_false (by omega)]
            · rfl
          rw [hw, bd_s, if_neg (by decide)]
          refine .mk ?_
          show ltL a b = decide (a.length < b.length)
          have := ltL_app (a.take (min a.length b.length)) (a.drop (min a.length b.length)) (b.drop (min a.length b.length))
          rw [List.take_append_drop, hp, List.take_append_drop] at this
          rw [this]
          by_cases hlen : a.length < b.length
          · rw [Nat.min_eq_left (by omega), List.drop_length]
            cases hd : b.drop a.length with
            | nil => have := congrArg List.length hd; rw [List.length_drop] at this; simp at this; omega
            | cons x y => simp [ltL, hlen]
          · rw [Nat.min_eq_right (by omega), List.drop_length (l := b)]
            cases hd : a.drop b.length with
            | nil => simp [ltL, hlen]
            | cons x y => simp [ltL, hlen]
      rw [e, bd_s]
      cases r with
      | inl u => dsimp only at hr ⊢; rw [hr]; congr 1; rw [decide_eq_decide]; omega
      | inr c => dsimp only at hr ⊢; rw [hr]
/-- a node as the document's -/
@[reducible] def toR (n : ShelfNode) : R09Node := ⟨n.Path, n.Value, n.Version, n.Owner⟩
theorem toR_inj {a b : ShelfNode} (h : toR a = toR b) : a = b := by
  cases a; cases b; simp [toR] at h; simp [h]
def plainS (s : ShelfShelf) : R09Shelf := ⟨s.L.map toR⟩
theorem plain_eq (s : ShelfShelf) (hl : s.L.length < 2 ^ 40) : tL09Plain s = some (plainS s) := by
  have hloop : Loop (tL09PlainL1 s) (([] : List R09Node), 0) = some (s.L.map toR) := by
    refine Gives.eq (Gives.count (fun k => ((s.L.take k).map toR, (k : Int))) s.L.length (fun _ => True) rfl trivial (fun k hk _ => ?_) (fun _ => ?_))
    · unfold tL09PlainL1
      dsimp only
      rw [if_pos (by omega), ix_nat hk, if_pos (by simp only [List.length_map, List.length_take, List.length_cons, List.length_nil]; omega), wrap64 (by omega) (by omega)]
      refine .mk ⟨?_, trivial⟩
      rw [map_take_succ toR hk]; rfl
    · unfold tL09PlainL1
      dsimp only
      rw [if_neg (by omega), List.take_length]
      exact .mk rfl
  unfold tL09Plain
  rw [hloop]; rfl
theorem few_eq (s : ShelfShelf) : ∃ b, tL09Few s = some b ∧ (b = true → s.L.length ≤ 60) := by
  obtain ⟨r, e, hr⟩ := Loop_all (body := tL09FewL1 s) s.L.length (fun k => ¬ k = 60 ∧ ∀ h : k < s.L.length, (s.L[k]).Path.length ≤ 200 ∧ (s.L[k]).Value.length ≤ 1100) false (fun k hk hp => by
    have hk60 : k ≤ 60 := by
      by_cases h : k ≤ 60
      · exact h
      · exact absurd rfl (hp 60 (by omega)).1
    unfold tL09FewL1
    rw [if_pos (by omega)]
    by_cases h60 : k = 60
    · subst h60
      rw [if_pos (by decide), bd_s, if_pos rfl]
      exact ⟨fun h => absurd rfl h.1, fun _ => rfl⟩
    · rw [if_neg (by omega), ix_nat hk, ix_nat hk]
      by_cases h1 : (s.L[k]).Path.length ≤ 200
      · rw [if_neg (by omega), bd_s]
        by_cases h2 : (s.L[k]).Value.length ≤ 1100
        · rw [decide_eq_false (by omega), if_neg (by decide), wrap64 (by omega) (by omega)]
          exact ⟨fun _ => rfl, fun h => absurd ⟨h60, fun _ => ⟨h1, h2⟩⟩ h⟩
        · rw [decide_eq_true (by omega), if_pos rfl]
          exact ⟨fun h => absurd (h.2 hk).2 h2, fun _ => rfl⟩
      · rw [if_pos (by omega), bd_s, if_pos rfl]
        exact ⟨fun h => absurd (h.2 hk).1 h1, fun _ => rfl⟩) (by
    unfold tL09FewL1
    rw [if_neg (by omega)])
  unfold tL09Few
  rw [e, bd_s]
  rcases hr with ⟨rfl, h⟩ | ⟨rfl, k, hk, h⟩
  · refine ⟨true, rfl, fun _ => ?_⟩
    by_cases hn : s.L.length ≤ 60
    · exact hn
    · exact absurd rfl (h 60 (by omega)).1
  · exact ⟨false, rfl, fun h => by cases h⟩
/-- where a path stands; -1: nowhere -/
def atI (l : List (List UInt8)) (p : List UInt8) : Int := match l.findIdx? (fun x => decide (x = p)) with
  | some k => k
  | none => -1
theorem atI_none {l : List (List UInt8)} {p : List UInt8} (h : ∀ x ∈ l, x ≠ p) : atI l p = -1 := by
  unfold atI
  have : l.findIdx? (fun x => decide (x = p)) = none := by
    rw [List.findIdx?_eq_none_iff]
    intro x hx; simpa using h x hx
  rw [this]
theorem atI_some {l : List (List UInt8)} {p : List UInt8} {k : Nat} (hk : k < l.length) (h : l[k] = p) (hf : ∀ j (hj : j < k), l[j] ≠ p) : atI l p = k := by
  unfold atI
  have : l.findIdx? (fun x => decide (x = p)) = some k := by
    rw [List.findIdx?_eq_some_iff_getElem]
    exact ⟨hk, by simpa using h, fun j hj => by simpa using hf j hj⟩
  rw [this]
theorem at_eq (s : R09Shelf) (p : List UInt8) (hl : s.L.length < 2 ^ 40) : tR09At s p = some (atI (s.L.map (·.Path)) p) := by
  obtain ⟨r, e, hr⟩ : ∃ r, Loop (tR09AtL1 s p) 0 = some r ∧ (match r with | .inl () => atI (s.L.map (·.Path)) p = -1 | .inr n => atI (s.L.map (·.Path)) p = n) := by
    refine Gives.count (fun k => (k : Int)) s.L.length (fun k => ∀ j (h : j < s.L.length), j < k → (s.L[j]).Path ≠ p) rfl (fun j _ h => by omega) (fun k hk hp => ?_) (fun hp => ?_)
    · unfold tR09AtL1
      rw [if_pos (by omega), ix_nat hk]
      by_cases hh : (s.L[k]).Path = p
      · rw [if_pos hh]
        refine .mk ?_
        exact atI_some (by simpa using hk) (by simpa using hh) (fun j hj => by simpa using hp j (by omega) hj)
      · rw [if_neg hh, wrap64 (by omega) (by omega)]
        refine .mk ⟨by omega, fun j h hj => ?_⟩
        by_cases hjk : j = k
        · subst hjk; exact hh
        · exact hp j h (by omega)
    · unfold tR09AtL1
      rw [if_neg (by omega)]
      refine .mk ?_
      refine atI_none fun x hx => ?_
      obtain ⟨n, hn, rfl⟩ := List.mem_map.1 hx
      obtain ⟨j, hj, rfl⟩ := List.mem_iff_getElem.1 hn
      exact hp j hj hj
  unfold tR09At
  rw [e, bd_s]
  cases r with
  | inl u => dsimp only at hr ⊢; rw [hr]
  | inr n => dsimp only at hr ⊢; rw [hr]
theorem index_eq (l : List ShelfNode) (f : ShelfNode → Option Bool) (p : List UInt8) (hf : ∀ x, f x = some (decide (x.Path = p))) (hl : l.length < 2 ^ 40) : tSlicesIndexFuncShelfNode l f = some (atI (l.map (·.Path)) p) := by
  obtain ⟨r, e, hr⟩ : ∃ r, Loop (tSlicesIndexFuncShelfNodeL1 l f) 0 = some r ∧ (match r with | .inl () => atI (l.map (·.Path)) p = -1 | .inr n => atI (l.map (·.Path)) p = n) := by
    refine Gives.count (fun k => (k : Int)) l.length (fun k => ∀ j (h : j < l.length), j < k → (l[j]).Path ≠ p) rfl (fun j _ h => by omega) (fun k hk hp => ?_) (fun hp => ?_)
    · unfold tSlicesIndexFuncShelfNodeL1
      rw [if_pos (by omega), ix_nat hk, hf, bd_s]
      by_cases hh : (l[k]).Path = p
      · rw [decide_eq_true hh, if_pos rfl]
        refine .mk ?_
        exact atI_some (by simpa using hk) (by simpa using hh) (fun j hj => by simpa using hp j (by omega) hj)
      · rw [decide_eq_false hh, if_neg (by decide), wrap64 (by omega) (by omega)]
        refine .mk ⟨by omega, fun j h hj => ?_⟩
        by_cases hjk : j = k
        · subst hjk; exact hh
        · exact hp j h (by omega)
    · unfold tSlicesIndexFuncShelfNodeL1
      rw [if_neg (by omega)]
      refine .mk ?_
      refine atI_none fun x hx => ?_
      obtain ⟨n, hn, rfl⟩ := List.mem_map.1 hx
      obtain ⟨j, hj, rfl⟩ := List.mem_iff_getElem.1 hn
      exact hp j hj hj
  unfold tSlicesIndexFuncShelfNode
  rw [e, bd_s]
  cases r with
  | inl u => dsimp only at hr ⊢; rw [hr]
  | inr n => dsimp only at hr ⊢; rw [hr]
end Dn.S
