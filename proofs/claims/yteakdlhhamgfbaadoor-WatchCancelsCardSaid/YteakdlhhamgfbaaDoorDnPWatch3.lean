import Derived.Test.YteakdlhhamgfbaaDoorDnPWatch2
/-
  Watches: each fires once at most; a cancelled watch is not told. Conditions: none.
-/
open Go Dn
set_option linter.unusedVariables false
set_option linter.unusedSimpArgs false
namespace Dn.S
theorem told_count (c : WatchChange) (w : WatchWatch) : ∀ L : List WatchWatch, (toldE c L).countP (fun e => decide (e.W = w)) = if touchB c w then L.countP (fun x => decide (x = w)) else 0
  | [] => by simp [toldE]
  | v :: L => by
    have ih := told_count c w L
    unfold toldE at ih ⊢
    by_cases hv : v = w
    · subst hv
      rw [List.filter_cons]
      cases h : touchB c v with
      | false => rw [h] at ih; simpa using ih
      | true => rw [h] at ih; rw [if_pos rfl, List.map_cons, List.countP_cons, ih]; simp
    · rw [List.countP_cons, decide_eq_false hv, List.filter_cons]
      cases h : touchB c v with
      | false => simpa using ih
      | true =>
        rw [if_pos rfl, List.map_cons, List.countP_cons, ih]
        simp [hv]
theorem stay_count (c : WatchChange) (w : WatchWatch) : ∀ L : List WatchWatch, (stayW c L).countP (fun x => decide (x = w)) = if touchB c w then 0 else L.countP (fun x => decide (x = w))
  | [] => by simp [stayW]
  | v :: L => by
    have ih := stay_count c w L
    unfold stayW at ih ⊢
    rw [List.filter_cons]
    by_cases hv : v = w
    · subst hv
      cases h : touchB c v with
      | false => rw [h] at ih; simp only [Bool.not_false, if_pos, List.countP_cons, ih]; simp
      | true => rw [h] at ih; simpa using ih
    · cases h : touchB c v with
      | false => simp only [Bool.not_false, if_pos, List.countP_cons, ih, decide_eq_false hv]; simp
      | true =>
        simp only [Bool.not_true, List.countP_cons, decide_eq_false hv]
        simpa using ih
theorem ev_count (w : WatchWatch) (l : List WatchChange) : ∀ L : List WatchWatch, (fireL L l).2.countP (fun e => decide (e.W = w)) = if l.any (fun c => touchB c w) then L.countP (fun x => decide (x = w)) else 0 := by
  induction l with
  | nil => intro L; simp [fireL]
  | cons c l ih =>
    intro L
    rw [fireL_cons]
    dsimp only
    rw [List.countP_append, ih, told_count, stay_count, List.any_cons]
    cases touchB c w <;> cases l.any (fun c => touchB c w) <;> simp
/-! ### once -/
def FirstT (l : List WatchChange) (w : WatchWatch) (j : Nat) (v : Int) : Prop :=
  (v = -1 ∧ ∀ m (hm : m < l.length), j ≤ m → touchB l[m] w = false) ∨ (∃ k : Nat, v = (k : Int) ∧ ∃ hk : k < l.length, j ≤ k ∧ touchB l[k] w = true ∧ ∀ m (hm : m < l.length), j ≤ m → m < k → touchB l[m] w = false)
theorem countT_le {α : Type} {p : α → Bool} {L : List α} {k : Nat} : (L.take k).countP p ≤ L.length := Nat.le_trans List.countP_le_length (by rw [List.length_take]; omega)
/-! ### cancelled -/
theorem fire_go (cl : Int) (l : List WatchChange) : ∀ L : List WatchWatch, fireL (goW cl L) l = (goW cl (fireL L l).1, (fireL L l).2.filter fun e => !decide (e.W.Client = cl)) := by
  induction l with
  | nil => intro L; rfl
  | cons c l ih =>
    intro L
    rw [fireL_cons, fireL_cons]
    have e1 : stayW c (goW cl L) = goW cl (stayW c L) := by
      unfold stayW goW
      rw [List.filter_filter, List.filter_filter]
      congr 1
      funext w
      rw [Bool.and_comm]
    have e2 : toldE c (goW cl L) = (toldE c L).filter fun e => !decide (e.W.Client = cl) := by
      unfold toldE goW
      rw [List.filter_map, List.filter_filter, List.filter_filter]
      congr 2
      funext w
      rw [Bool.and_comm]; rfl
    rw [e1, ih, e2]
    dsimp only
    rw [List.filter_append]
theorem add_mem {L : List WatchWatch} {w : WatchWatch} (h : (addW L w).2 = 0) : w ∈ (addW L w).1 := by
  unfold addW at h ⊢
  split at h
  · exact absurd (show (_ : Int) = 0 from h) (by first | exact (by decide : ¬ (13 : Int) = 0) | exact (by decide : ¬ (1 : Int) = 0) | exact (by decide : ¬ (9 : Int) = 0))
  rename_i h1
  rw [if_neg h1]
  split at h
  · exact absurd (show (_ : Int) = 0 from h) (by first | exact (by decide : ¬ (13 : Int) = 0) | exact (by decide : ¬ (1 : Int) = 0) | exact (by decide : ¬ (9 : Int) = 0))
  rename_i h2
  rw [if_neg h2]
  split at h
  · rename_i h3
    rw [if_pos h3]; exact h3
  rename_i h3
  rw [if_neg h3]
  split at h
  · exact absurd (show (_ : Int) = 0 from h) (by first | exact (by decide : ¬ (13 : Int) = 0) | exact (by decide : ¬ (1 : Int) = 0) | exact (by decide : ¬ (9 : Int) = 0))
  rename_i h4
  rw [if_neg h4]
  exact List.mem_append.2 (.inr (List.mem_singleton.2 rfl))
theorem ev_any {L : List WatchWatch} {w : WatchWatch} (hw : w ∈ L) (l : List WatchChange) : (fireL L l).2.any (fun e => decide (e.W = w)) = l.any fun c => touchB c w := by
  have hc := ev_count w l L
  have h1 : 0 < L.countP (fun x => decide (x = w)) := List.countP_pos_iff.2 ⟨w, hw, decide_eq_true rfl⟩
  rw [Bool.eq_iff_iff]
  have h2 : (fireL L l).2.any (fun e => decide (e.W = w)) = true ↔ 0 < (fireL L l).2.countP (fun e => decide (e.W = w)) := by
    rw [List.any_eq_true, List.countP_pos_iff]
  rw [h2, hc]
  cases l.any fun c => touchB c w with
  | false => simp
  | true => rw [if_pos rfl]; exact ⟨fun _ => rfl, fun _ => h1⟩
theorem watchCancels_all (a : WatchTable) (w : WatchWatch) (l : List WatchChange) : tL11WatchCancels a w l = some true := by
  unfold tL11WatchCancels
  obtain ⟨b1, e1, h1⟩ := few11_eq a
  obtain ⟨b3, e3, h3⟩ := short11_eq l
  rw [e1, bd_s, evL11Alive]
  cases b1 with
  | false => rfl
  | true =>
  have hl := (h1 rfl).1
  rw [if_neg (by decide), plain11_eq a (by omega), bd_s]
  obtain ⟨b2, e2, h2⟩ := r11right_eq a.L (by omega)
  rw [e2, bd_s]
  cases b2 with
  | false => rfl
  | true =>
  rw [if_neg (by decide), e3, bd_s]
  cases b3 with
  | false => rfl
  | true =>
  have hs := (h3 rfl).1
  rw [if_neg (by decide)]
  by_cases hp : (300 : Int) < (w.Path.length : Int)
  · rw [decide_eq_true hp]; rfl
  rw [decide_eq_false hp, bd_s, if_neg (by decide)]
  have ea : tWatchAdd a w = some (⟨(addW a.L w).1⟩, (addW a.L w).2) := add_eq11 a.L w (by omega)
  have hadd : (addW a.L w).1.length ≤ 61 := by
    unfold addW
    split
    · show a.L.length ≤ 61; omega
    · split
      · show a.L.length ≤ 61; omega
      · split
        · show a.L.length ≤ 61; omega
        · split
          · show a.L.length ≤ 61; omega
          · simp only [List.length_append, List.length_cons, List.length_nil]; omega
  have hfl := fireL_len a.L l
  have hfl2 := fireL_len (addW a.L w).1 l
  have hgl : (goW w.Client a.L).length ≤ 60 := Nat.le_trans (List.length_filter_le _ _) hl
  have hfg := fire_go w.Client l a.L
  have hfl3 := fireL_len (goW w.Client a.L) l
  rw [fire_eq a l (by omega) (by omega), bd_s, cancel_eq a _ (by omega), bd_s, fire_eq ⟨goW w.Client a.L⟩ l (show (goW w.Client a.L).length ≤ 1000 by omega) (by omega), bd_s]
  have hL1 : Loop (tL11WatchCancelsL1 w ((⟨(fireL a.L l).1⟩ : WatchTable), (fireL a.L l).2)) (([] : List WatchEvent), 0) = some ((fireL a.L l).2.filter fun e => !decide (e.W.Client = w.Client)) := by
    refine loop_filter _ _ (fun k hk => ?_) ?_
    · unfold tL11WatchCancelsL1
      dsimp only
      have hle := @filterT_le _ (fun e : WatchEvent => !decide (e.W.Client = w.Client)) (fireL a.L l).2 k
      rw [if_pos (by omega), ix_nat hk, ix_nat hk, wrap64 (by omega) (by omega)]
      by_cases hc : (fireL a.L l).2[k].W.Client = w.Client
      · rw [decide_eq_true hc, if_neg (by decide), bd_s, if_neg (by decide), List.append_nil]; rfl
      · rw [decide_eq_false hc, if_pos (show (!false) = true from rfl), if_pos (by simp only [List.length_cons, List.length_nil]; omega), bd_s]; rfl
    · unfold tL11WatchCancelsL1
      dsimp only
      rw [if_neg (by omega)]
  rw [hL1, bd_s, ea, bd_s]
  dsimp only
  rw [fire_eq ⟨(addW a.L w).1⟩ l (show (addW a.L w).1.length ≤ 1000 by omega) (by omega), bd_s]
  have hL2 : Loop (tL11WatchCancelsL2 w l) (false, 0) = some (l.any fun c => touchB c w) := by
    rw [← any_range (L := l) (q := fun c => touchB c w)]
    refine Loop_any l.length _ id (fun k b hk => ?_) (fun b => ?_)
    · unfold tL11WatchCancelsL2
      dsimp only
      rw [if_pos (by omega), ix_nat hk, touches_eq, wrap64 (by omega) (by omega), List.getElem?_eq_getElem hk]
      cases b <;> rfl
    · unfold tL11WatchCancelsL2
      dsimp only
      rw [if_neg (by omega)]; rfl
  have hL3 : Loop (tL11WatchCancelsL3 w ((⟨(fireL (addW a.L w).1 l).1⟩ : WatchTable), (fireL (addW a.L w).1 l).2)) (false, 0) = some ((fireL (addW a.L w).1 l).2.any fun e => decide (e.W = w)) := by
    rw [← any_range (L := (fireL (addW a.L w).1 l).2) (q := fun e => decide (e.W = w))]
    refine Loop_any (fireL (addW a.L w).1 l).2.length _ id (fun k b hk => ?_) (fun b => ?_)
    · unfold tL11WatchCancelsL3
      dsimp only
      rw [if_pos (by omega), ix_nat hk, watch_dec, wrap64 (by omega) (by omega), List.getElem?_eq_getElem hk]
      cases b <;> rfl
    · unfold tL11WatchCancelsL3
      dsimp only
      rw [if_neg (by omega)]; rfl
  rw [hL2, bd_s, hL3, bd_s, bd_s, if_pos rfl]
  dsimp only
  have hel : ((fireL a.L l).2.filter fun e => !decide (e.W.Client = w.Client)).length ≤ 60 := Nat.le_trans (List.length_filter_le _ _) (by omega)
  rw [hfg]
  dsimp only
  rw [events_eq _ (by omega), bd_s, bd_s, r11Events_eq _ _ (by rw [List.length_map]; omega), bd_s, decide_eq_true rfl, if_pos rfl]
  by_cases h0 : (addW a.L w).2 = 0
  · rw [decide_eq_true h0, if_neg (by decide), if_pos (ev_any (add_mem h0) l), wrap64 (by omega) (by omega), decide_eq_true (by omega), bd_s]
  · rw [decide_eq_false h0]; rfl
end Dn.S
