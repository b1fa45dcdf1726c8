import Derived.Test.YteakdlhhamgfbaaDoorDnPWatch2
/-
  Watches: each fires once at most; a cancelled watch is not told. Conditions: none.
-/
open Go Dn
set_option linter.unusedVariables false
set_option linter.unusedSimpArgs false
namespace Dn.S
theorem left_eq (l : List WatchChange) : ∀ L : List WatchWatch, (fireL L l).1 = L.filter (fun w => !l.any fun c => touchB c w) := by
  induction l with
  | nil => intro L; exact (List.filter_eq_self.2 fun a _ => rfl).symm
  | cons c l ih =>
    intro L
    rw [fireL_cons]
    dsimp only
    rw [ih]
    unfold stayW
    rw [List.filter_filter]
    congr 1
    funext w
    rw [List.any_cons]
    cases touchB c w <;> simp
theorem ev_mem (l : List WatchChange) : ∀ (L : List WatchWatch) (e : WatchEvent), e ∈ (fireL L l).2 → e.W ∈ L ∧ l.find? (fun c => touchB c e.W) = some e.C := by
  induction l with
  | nil => intro L e h; exact absurd h (by simp [fireL])
  | cons c l ih =>
    intro L e h
    rw [fireL_cons] at h
    rcases List.mem_append.1 h with h | h
    · unfold toldE at h
      obtain ⟨w, hw, rfl⟩ := List.mem_map.1 h
      obtain ⟨h1, h2⟩ := List.mem_filter.1 hw
      exact ⟨h1, List.find?_cons_of_pos h2⟩
    · obtain ⟨h1, h2⟩ := ih _ _ h
      unfold stayW at h1
      obtain ⟨h3, h4⟩ := List.mem_filter.1 h1
      refine ⟨h3, ?_⟩
      rw [List.find?_cons_of_neg (by simpa using h4)]
      exact h2
theorem told_count (c : WatchChange) (w : WatchWatch) : ∀ L : List WatchWatch, (toldE c L).countP (fun e => decide (e.W = w)) = if touchB c w then L.countP (fun x => decide (x = w)) else 0
  | [] => by simp [toldE]
  | v :: L => by
    have ih := told_count c w L
    unfold toldE at ih ⊢
    by_cases hv : v = w
    · subst hv
      rw [List.filter_cons]
      cases h : touchB c v with
      | false => rw [h] at ih; simpa using ih
      | true => rw [h] at ih; rw [if_pos rfl, List.map_cons, List.countP_cons, ih]; simp
    · rw [List.countP_cons, decide_eq_false hv, List.filter_cons]
      cases h : touchB c v with
      | false => simpa using ih
      | true =>
        rw [if_pos rfl, List.map_cons, List.countP_cons, ih]
        simp [hv]
theorem stay_count (c : WatchChange) (w : WatchWatch) : ∀ L : List WatchWatch, (stayW c L).countP (fun x => decide (x = w)) = if touchB c w then 0 else L.countP (fun x => decide (x = w))
  | [] => by simp [stayW]
  | v :: L => by
    have ih := stay_count c w L
    unfold stayW at ih ⊢
    rw [List.filter_cons]
    by_cases hv : v = w
    · subst hv
      cases h : touchB c v with
      | false => rw [h] at ih; simp only [Bool.not_false, if_pos, List.countP_cons, ih]; simp
      | true => rw [h] at ih; simpa using ih
    · cases h : touchB c v with
      | false => simp only [Bool.not_false, if_pos, List.countP_cons, ih, decide_eq_false hv]; simp
      | true =>
        simp only [Bool.not_true, List.countP_cons, decide_eq_false hv]
        simpa using ih
theorem ev_count (w : WatchWatch) (l : List WatchChange) : ∀ L : List WatchWatch, (fireL L l).2.countP (fun e => decide (e.W = w)) = if l.any (fun c => touchB c w) then L.countP (fun x => decide (x = w)) else 0 := by
  induction l with
  | nil => intro L; simp [fireL]
  | cons c l ih =>
    intro L
    rw [fireL_cons]
    dsimp only
    rw [List.countP_append, ih, told_count, stay_count, List.any_cons]
    cases touchB c w <;> cases l.any (fun c => touchB c w) <;> simp
theorem one_count {L : List WatchWatch} (h : L.Nodup) {w : WatchWatch} (hw : w ∈ L) : L.countP (fun x => decide (x = w)) = 1 := by
  induction L with
  | nil => exact absurd hw (by simp)
  | cons v L ih =>
    rw [List.nodup_cons] at h
    rw [List.countP_cons]
    by_cases hv : v = w
    · subst hv
      rw [decide_eq_true rfl, if_pos rfl]
      have : L.countP (fun x => decide (x = v)) = 0 := by
        rw [List.countP_eq_zero]
        intro a ha hh
        exact h.1 (of_decide_eq_true hh ▸ ha)
      omega
    · rw [decide_eq_false hv, if_neg (by decide)]
      rcases List.mem_cons.1 hw with e | hw
      · exact absurd e.symm hv
      · have := ih h.2 hw; omega
/-! ### once -/
def FirstT (l : List WatchChange) (w : WatchWatch) (j : Nat) (v : Int) : Prop :=
  (v = -1 ∧ ∀ m (hm : m < l.length), j ≤ m → touchB l[m] w = false) ∨ (∃ k : Nat, v = (k : Int) ∧ ∃ hk : k < l.length, j ≤ k ∧ touchB l[k] w = true ∧ ∀ m (hm : m < l.length), j ≤ m → m < k → touchB l[m] w = false)
theorem first_loop (l : List WatchChange) (w : WatchWatch) (hl : l.length ≤ 1000) : Gives (Loop (tL11WatchOnceL1 l w) ((-1), IntKind.wrap .i64 ((l.length : Int) - 1))) fun v => FirstT l w 0 v := by
  rw [wrap64 (by omega) (by omega)]
  refine Gives.loop (fun st => ∃ j : Nat, j ≤ l.length ∧ st.2 = (j : Int) - 1 ∧ FirstT l w j st.1) (fun st => (st.2 + 1).toNat) ⟨l.length, Nat.le_refl _, rfl, .inl ⟨rfl, fun m hm h => by omega⟩⟩ ?_
  rintro ⟨v, i⟩ ⟨j, hj, hi, hf⟩
  dsimp only at hi hf
  subst hi
  unfold tL11WatchOnceL1
  dsimp only
  by_cases h0 : j = 0
  · subst h0
    rw [if_neg (by omega)]
    exact .mk hf
  obtain ⟨j, rfl⟩ : ∃ j', j = j' + 1 := ⟨j - 1, by omega⟩
  have hjl : j < l.length := by omega
  rw [show ((j + 1 : Nat) : Int) - 1 = (j : Int) by omega, if_pos (by omega), ix_nat hjl, touches_eq, bd_s, wrap64 (by omega) (by omega)]
  cases ht : touchB l[j] w with
  | true =>
    rw [if_pos rfl, bd_s]
    exact .mk ⟨⟨j, by omega, rfl, .inr ⟨j, rfl, hjl, Nat.le_refl _, ht, fun m hm h1 h2 => by omega⟩⟩, by dsimp only; omega⟩
  | false =>
    rw [if_neg (by decide), bd_s]
    refine .mk ⟨⟨j, by omega, rfl, ?_⟩, by dsimp only; omega⟩
    rcases hf with ⟨e, h⟩ | ⟨k, e, hk, h1, h2, h3⟩
    · refine .inl ⟨e, fun m hm hjm => ?_⟩
      by_cases hmj : m = j
      · subst hmj; exact ht
      · exact h m hm (by omega)
    · refine .inr ⟨k, e, hk, by omega, h2, fun m hm hjm hmk => ?_⟩
      by_cases hmj : m = j
      · subst hmj; exact ht
      · exact h3 m hm (by omega) hmk
theorem first_any {l : List WatchChange} {w : WatchWatch} {v : Int} (h : FirstT l w 0 v) : (v = -1 ∧ l.any (fun c => touchB c w) = false) ∨ (∃ k : Nat, v = (k : Int) ∧ ∃ hk : k < l.length, l.any (fun c => touchB c w) = true ∧ l.find? (fun c => touchB c w) = some l[k]) := by
  rcases h with ⟨e, h⟩ | ⟨k, e, hk, _, h2, h3⟩
  · refine .inl ⟨e, ?_⟩
    rw [List.any_eq_false]
    intro c hc
    obtain ⟨m, hm, rfl⟩ := List.mem_iff_getElem.1 hc
    rw [h m hm (Nat.zero_le _)]; decide
  · refine .inr ⟨k, e, hk, List.any_eq_true.2 ⟨_, List.getElem_mem hk, h2⟩, ?_⟩
    rw [List.find?_eq_some_iff_getElem]
    exact ⟨h2, k, hk, rfl, fun m hm => by rw [h3 m (by omega) (Nat.zero_le _) hm]; rfl⟩
theorem countT_succ {α : Type} {p : α → Bool} {L : List α} {k : Nat} (hk : k < L.length) : (L.take (k + 1)).countP p = (L.take k).countP p + if p L[k] then 1 else 0 := by
  rw [List.take_add_one, List.getElem?_eq_getElem hk, List.countP_append]
  simp [List.countP_cons]
theorem countT_le {α : Type} {p : α → Bool} {L : List α} {k : Nat} : (L.take k).countP p ≤ L.length := Nat.le_trans List.countP_le_length (by rw [List.length_take]; omega)
theorem once_step (a : WatchTable) (l : List WatchChange) (h1 : a.L.length ≤ 60) (h2 : l.length ≤ 40) (hn : a.L.Nodup) {k : Nat} (hk : k < a.L.length) :
    tL11WatchOnceL4 a l (⟨(fireL a.L l).1⟩, (fireL a.L l).2) (k : Int) = some (.inl ((k + 1 : Nat) : Int)) := by
  unfold tL11WatchOnceL4
  rw [if_pos (by omega), ix_nat hk]
  obtain ⟨v, ev, hv⟩ := first_loop l a.L[k] (by omega)
  have hlen := fireL_len a.L l
  have hfa := first_any hv
  have hcount := ev_count a.L[k] l a.L
  rw [one_count hn (List.getElem_mem hk)] at hcount
  rw [ev, bd_s]
  have hL2 : Loop (tL11WatchOnceL2 l ((⟨(fireL a.L l).1⟩ : WatchTable), (fireL a.L l).2) a.L[k] v) (0, 0) = some (.inl ((fireL a.L l).2.countP (fun e => decide (e.W = a.L[k])) : Int)) := by
    refine Gives.eq (Gives.count (fun j => ((((fireL a.L l).2.take j).countP (fun e => decide (e.W = a.L[k])) : Int), (j : Int))) (fireL a.L l).2.length (fun _ => True) (by simp) trivial (fun j hj _ => ?_) (fun _ => ?_))
    · unfold tL11WatchOnceL2
      dsimp only
      rw [if_pos (by omega), ix_nat hj, watch_dec, countT_succ hj]
      have hcl := @countT_le _ (fun e : WatchEvent => decide (e.W = a.L[k])) (fireL a.L l).2 j
      by_cases he : ((fireL a.L l).2)[j].W = a.L[k]
      · obtain ⟨_, hfd⟩ := ev_mem l a.L _ (List.getElem_mem hj)
        rw [he] at hfd
        rw [decide_eq_true he, if_pos rfl]
        rcases hfa with ⟨e, h⟩ | ⟨m, e, hm, h, hf⟩
        · exfalso
          rw [List.any_eq_false] at h
          exact absurd (List.find?_some hfd) (h _ (List.mem_of_find?_eq_some hfd))
        subst e
        rw [if_neg (by omega), ix_nat hj, ix_nat hm, change_dec]
        rw [hfd] at hf
        rw [decide_eq_true (Option.some.inj hf), bd_s, if_neg (by decide), bd_s, wrap64 (by omega) (by omega)]
        dsimp only
        rw [wrap64 (by omega) (by omega), if_pos rfl]
        exact .mk ⟨by simp, trivial⟩
      · rw [decide_eq_false he, if_neg (by decide), bd_s]
        dsimp only
        rw [wrap64 (by omega) (by omega), if_neg (by decide)]
        exact .mk ⟨by simp, trivial⟩
    · unfold tL11WatchOnceL2
      dsimp only
      rw [if_neg (by omega), List.take_length]
      exact .mk rfl
  have hL3 : Loop (tL11WatchOnceL3 ((⟨(fireL a.L l).1⟩ : WatchTable), (fireL a.L l).2) a.L[k] v) 0 = some (.inl ()) := by
    refine Gives.eq (Gives.count (fun j => (j : Int)) (fireL a.L l).1.length (fun _ => True) rfl trivial (fun j hj _ => ?_) (fun _ => ?_))
    · unfold tL11WatchOnceL3
      dsimp only
      rw [if_pos (by omega), ix_nat hj, watch_dec]
      have hw : (if decide ((fireL a.L l).1[j] = a.L[k]) = true then some (decide (0 ≤ v)) else some false) = some false := by
        by_cases he : (fireL a.L l).1[j] = a.L[k]
        · rw [decide_eq_true he, if_pos rfl]
          rcases hfa with ⟨e, _⟩ | ⟨m, e, hm, h, _⟩
          · rw [decide_eq_false (by omega)]
          · exfalso
            have e2 := left_eq l a.L
            have : a.L[k] ∈ List.filter (fun w => !l.any fun c => touchB c w) a.L := by
              rw [← e2, ← he]; exact List.getElem_mem hj
            have h3 := (List.mem_filter.1 this).2
            rw [h] at h3
            exact absurd h3 (by decide)
        · rw [decide_eq_false he, if_neg (by decide)]
      rw [hw, bd_s, if_neg (by decide), wrap64 (by omega) (by omega)]
      exact .mk ⟨by omega, trivial⟩
    · unfold tL11WatchOnceL3
      dsimp only
      rw [if_neg (by omega)]
      exact .mk rfl
  rw [hL2, bd_s]
  dsimp only
  rw [hL3, bd_s]
  dsimp only
  rw [hcount, wrap64 (by omega) (by omega)]
  rcases hfa with ⟨e, h⟩ | ⟨m, e, hm, h, _⟩
  · rw [h, e]; rfl
  · rw [h]; rfl
theorem watchOnce_all (a : WatchTable) (l : List WatchChange) : tL11WatchOnce a l = some true := by
  unfold tL11WatchOnce
  obtain ⟨b1, e1, h1⟩ := few11_eq a
  obtain ⟨b3, e3, h3⟩ := short11_eq l
  rw [e1, bd_s, evL11Alive]
  cases b1 with
  | false => rfl
  | true =>
  have hl := (h1 rfl).1
  rw [if_neg (by decide), plain11_eq a (by omega), bd_s]
  obtain ⟨b2, e2, h2⟩ := r11right_eq a.L (by omega)
  rw [e2, bd_s]
  cases b2 with
  | false => rfl
  | true =>
  have hr := h2.1 rfl
  rw [if_neg (by decide), e3, bd_s]
  cases b3 with
  | false => rfl
  | true =>
  have hs := (h3 rfl).1
  have hfl := fireL_len a.L l
  rw [bd_s, if_neg (by decide), fire_eq a l (by omega) (by omega), bd_s]
  dsimp only
  rw [wrap64 (by omega) (by omega), decide_eq_true (by omega), if_neg (by decide)]
  have hL4 : Loop (tL11WatchOnceL4 a l (⟨(fireL a.L l).1⟩, (fireL a.L l).2)) 0 = some (.inl ()) := by
    refine Gives.eq (Gives.count (fun j => (j : Int)) a.L.length (fun _ => True) rfl trivial (fun j hj _ => ?_) (fun _ => ?_))
    · rw [once_step a l hl hs hr.nodup hj]
      exact .mk ⟨rfl, trivial⟩
    · unfold tL11WatchOnceL4
      rw [if_neg (by omega)]
      exact .mk rfl
  rw [hL4, bd_s]
  rfl
/-! ### cancelled -/
theorem add_mem {L : List WatchWatch} {w : WatchWatch} (h : (addW L w).2 = 0) : w ∈ (addW L w).1 := by
  unfold addW at h ⊢
  split at h
  · exact absurd (show (_ : Int) = 0 from h) (by first | exact (by decide : ¬ (13 : Int) = 0) | exact (by decide : ¬ (1 : Int) = 0) | exact (by decide : ¬ (9 : Int) = 0))
  rename_i h1
  rw [if_neg h1]
  split at h
  · exact absurd (show (_ : Int) = 0 from h) (by first | exact (by decide : ¬ (13 : Int) = 0) | exact (by decide : ¬ (1 : Int) = 0) | exact (by decide : ¬ (9 : Int) = 0))
  rename_i h2
  rw [if_neg h2]
  split at h
  · rename_i h3
    rw [if_pos h3]; exact h3
  rename_i h3
  rw [if_neg h3]
  split at h
  · exact absurd (show (_ : Int) = 0 from h) (by first | exact (by decide : ¬ (13 : Int) = 0) | exact (by decide : ¬ (1 : Int) = 0) | exact (by decide : ¬ (9 : Int) = 0))
  rename_i h4
  rw [if_neg h4]
  exact List.mem_append.2 (.inr (List.mem_singleton.2 rfl))
end Dn.S
