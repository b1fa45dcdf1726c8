import Derived.Test.YteakdlhhamgfbaaDoorDnPPath4
import Derived.Test.YteakdlhhamgfbaaDoorDnD
/-
  Watches: the functions on typed values. Conditions: none.
-/
open Go Dn
set_option linter.unusedVariables false
set_option linter.unusedSimpArgs false
namespace Dn.S
/-! ### loops that make lists -/
theorem filterT_succ {α : Type} {p : α → Bool} {L : List α} {k : Nat} (hk : k < L.length) : (L.take (k + 1)).filter p = (L.take k).filter p ++ if p L[k] then [L[k]] else [] := by
  rw [List.take_add_one, List.getElem?_eq_getElem hk, List.filter_append]
  congr 1
  simp only [Option.toList_some, List.filter_cons, List.filter_nil]
theorem filterT_le {α : Type} {p : α → Bool} {L : List α} {k : Nat} : ((L.take k).filter p).length ≤ L.length := Nat.le_trans (List.length_filter_le _ _) (by rw [List.length_take]; omega)
theorem mapT_succ {α β : Type} {f : α → β} {L : List α} {k : Nat} (hk : k < L.length) : (L.take (k + 1)).map f = (L.take k).map f ++ [f L[k]] := by
  rw [List.take_add_one, List.getElem?_eq_getElem hk, List.map_append]; rfl
theorem mapT_len {α β : Type} {f : α → β} {L : List α} {k : Nat} : ((L.take k).map f).length ≤ L.length := by rw [List.length_map, List.length_take]; omega
theorem loop_map {α β : Type} (L : List α) (f : α → β) {body : List β × Int → Option ((List β × Int) ⊕ List β)} (h : ∀ k (hk : k < L.length), body ((L.take k).map f, (k : Int)) = some (.inl ((L.take k).map f ++ [f L[k]], ((k + 1 : Nat) : Int))))
    (he : body (L.map f, (L.length : Int)) = some (.inr (L.map f))) : Loop body ([], 0) = some (L.map f) := by
  refine Gives.eq (Gives.count (fun k => ((L.take k).map f, (k : Int))) L.length (fun _ => True) (by simp) trivial (fun k hk _ => ?_) (fun _ => ?_))
  · refine .of (h k hk) ⟨by rw [mapT_succ hk], trivial⟩
  · rw [List.take_length]; exact .of he rfl
theorem loop_filter {α : Type} (L : List α) (p : α → Bool) {body : List α × Int → Option ((List α × Int) ⊕ List α)} (h : ∀ k (hk : k < L.length), body ((L.take k).filter p, (k : Int)) = some (.inl ((L.take k).filter p ++ (if p L[k] then [L[k]] else []), ((k + 1 : Nat) : Int))))
    (he : body (L.filter p, (L.length : Int)) = some (.inr (L.filter p))) : Loop body ([], 0) = some (L.filter p) := by
  refine Gives.eq (Gives.count (fun k => ((L.take k).filter p, (k : Int))) L.length (fun _ => True) (by simp) trivial (fun k hk _ => ?_) (fun _ => ?_))
  · refine .of (h k hk) ⟨by rw [filterT_succ hk], trivial⟩
  · rw [List.take_length]; exact .of he rfl
/-! ### as the document's -/
def plW (w : WatchWatch) : R11Watch := ⟨w.Path, w.Client, w.Kids⟩
def plC (c : WatchChange) : R11Change := ⟨c.Kind, c.Path⟩
def plE (e : WatchEvent) : R11Event := ⟨plW e.W, plC e.C⟩
theorem plW_inj {a b : WatchWatch} : plW a = plW b ↔ a = b := by
  constructor
  · intro h; cases a; cases b; simp only [plW, R11Watch.mk.injEq] at h; obtain ⟨rfl, rfl, rfl⟩ := h; rfl
  · rintro rfl; rfl
theorem watch_dec (x y : WatchWatch) : ((decide (x.Path = y.Path)) && ((decide (x.Client = y.Client)) && (decide (x.Kids = y.Kids)))) = decide (x = y) := by
  cases x; cases y; rw [Bool.eq_iff_iff]; simp
theorem r11watch_dec (x y : R11Watch) : ((decide (x.Path = y.Path)) && ((decide (x.Client = y.Client)) && (decide (x.Kids = y.Kids)))) = decide (x = y) := by
  cases x; cases y; rw [Bool.eq_iff_iff]; simp
theorem r11event_dec (x y : R11Event) : ((decide (x.W.Path = y.W.Path)) && ((decide (x.W.Client = y.W.Client)) && ((decide (x.W.Kids = y.W.Kids)) && ((decide (x.C.Kind = y.C.Kind)) && (decide (x.C.Path = y.C.Path)))))) = decide (x = y) := by
  obtain ⟨⟨a, b, c⟩, ⟨d, e⟩⟩ := x
  obtain ⟨⟨a', b', c'⟩, ⟨d', e'⟩⟩ := y
  rw [Bool.eq_iff_iff]; simp [and_assoc]
theorem one_eq (w : WatchWatch) : tL11One w = some (plW w) := rfl
theorem plain11_eq (t : WatchTable) (hl : t.L.length ≤ 1000) : tL11Plain t = some ⟨t.L.map plW⟩ := by
  unfold tL11Plain
  have hloop : Loop (tL11PlainL1 t) (([] : List R11Watch), 0) = some (t.L.map plW) := by
   refine loop_map t.L plW (fun k hk => ?_) ?_
   · unfold tL11PlainL1
     dsimp only
     have := mapT_len (f := plW) (L := t.L) (k := k)
     rw [if_pos (by omega), ix_nat hk, one_eq, bd_s, if_pos (by simp only [List.length_cons, List.length_nil]; omega), wrap64 (by omega) (by omega)]
     rfl
   · unfold tL11PlainL1
     dsimp only
     rw [if_neg (by omega)]
  rw [hloop]; rfl
theorem events_eq (l : List WatchEvent) (hl : l.length ≤ 1000) : tL11Events l = some (l.map plE) := by
  unfold tL11Events
  have hloop : Loop (tL11EventsL1 l) (([] : List R11Event), 0) = some (l.map plE) := by
   refine loop_map l plE (fun k hk => ?_) ?_
   · unfold tL11EventsL1
     dsimp only
     have := mapT_len (f := plE) (L := l) (k := k)
     rw [if_pos (by omega), ix_nat hk, ix_nat hk, ix_nat hk, one_eq, bd_s, if_pos (by simp only [List.length_cons, List.length_nil]; omega), wrap64 (by omega) (by omega)]
     rfl
   · unfold tL11EventsL1
     dsimp only
     rw [if_neg (by omega)]
  rw [hloop]; rfl
/-! ### few, short -/
theorem few11_eq (t : WatchTable) : Gives (tL11Few t) fun b => b = true → t.L.length ≤ 60 ∧ ∀ e ∈ t.L, e.Path.length ≤ 300 := by
  unfold tL11Few
  refine Gives.bd (P := fun r => r = .inr false ∨ (r = .inl () ∧ t.L.length ≤ 60 ∧ ∀ e ∈ t.L, e.Path.length ≤ 300)) ?_ ?_
  · refine Gives.count (fun k => (k : Int)) t.L.length (fun k => k ≤ 60 ∧ ∀ j (hj : j < t.L.length), j < k → t.L[j].Path.length ≤ 300) rfl ⟨by omega, fun j _ h => by omega⟩ (fun k hk hp => ?_) (fun hp => ?_)
    · unfold tL11FewL1
      simp only [show ((k : Int) < (t.L.length : Int)) by omega, if_true]
      by_cases h40 : k = 60
      · simp only [show ((k : Int) = 60) by omega, if_true, bd_s]
        exact .mk (.inl rfl)
      · simp only [show ¬ ((k : Int) = 60) by omega, if_false, ix_nat hk, bd_s]
        by_cases hv : (300 : Int) < (t.L[k].Path.length : Int)
        · simp only [hv, decide_true, if_true]; exact .mk (.inl rfl)
        · simp only [hv, decide_false, Bool.false_eq_true, if_false]
          rw [wrap64 (by omega) (by omega)]
          refine .mk ⟨by omega, by omega, fun j hj hjk => ?_⟩
          by_cases hjk2 : j = k
          · subst hjk2; omega
          · exact hp.2 j hj (by omega)
    · unfold tL11FewL1
      simp only [show ¬ ((t.L.length : Int) < (t.L.length : Int)) by omega, if_false]
      refine .mk (.inr ⟨rfl, hp.1, fun e he => ?_⟩)
      obtain ⟨k, hk, rfl⟩ := List.mem_iff_getElem.1 he
      exact hp.2 k hk hk
  · rintro r (rfl | ⟨rfl, h⟩)
    · exact .mk (by simp)
    · exact .mk fun _ => h
theorem short11_eq (l : List WatchChange) : Gives (tL11Short l) fun b => b = true → l.length ≤ 40 ∧ ∀ e ∈ l, e.Path.length ≤ 300 := by
  unfold tL11Short
  refine Gives.bd (P := fun r => r = .inr false ∨ (r = .inl () ∧ l.length ≤ 40 ∧ ∀ e ∈ l, e.Path.length ≤ 300)) ?_ ?_
  · refine Gives.count (fun k => (k : Int)) l.length (fun k => k ≤ 40 ∧ ∀ j (hj : j < l.length), j < k → l[j].Path.length ≤ 300) rfl ⟨by omega, fun j _ h => by omega⟩ (fun k hk hp => ?_) (fun hp => ?_)
    · unfold tL11ShortL1
      simp only [show ((k : Int) < (l.length : Int)) by omega, if_true]
      by_cases h40 : k = 40
      · simp only [show ((k : Int) = 40) by omega, if_true, bd_s]
        exact .mk (.inl rfl)
      · simp only [show ¬ ((k : Int) = 40) by omega, if_false, ix_nat hk, bd_s]
        by_cases hv : (300 : Int) < (l[k].Path.length : Int)
        · simp only [hv, decide_true, if_true]; exact .mk (.inl rfl)
        · simp only [hv, decide_false, Bool.false_eq_true, if_false]
          rw [wrap64 (by omega) (by omega)]
          refine .mk ⟨by omega, by omega, fun j hj hjk => ?_⟩
          by_cases hjk2 : j = k
          · subst hjk2; omega
          · exact hp.2 j hj (by omega)
    · unfold tL11ShortL1
      simp only [show ¬ ((l.length : Int) < (l.length : Int)) by omega, if_false]
      refine .mk (.inr ⟨rfl, hp.1, fun e he => ?_⟩)
      obtain ⟨k, hk, rfl⟩ := List.mem_iff_getElem.1 he
      exact hp.2 k hk hk
  · rintro r (rfl | ⟨rfl, h⟩)
    · exact .mk (by simp)
    · exact .mk fun _ => h
/-! ### are they alike -/
theorem equalW_eq (a b : List WatchWatch) (hl : a.length < 2 ^ 60) : tSlicesEqualWatchWatch a b = some (decide (a = b)) := by
  unfold tSlicesEqualWatchWatch
  by_cases h : a.length = b.length
  · simp only [show ((a.length : Int) = (b.length : Int)) by omega, decide_true, Bool.not_true, Bool.false_eq_true, if_false]
    have hloop : Loop (tSlicesEqualWatchWatchL1 a b) 0 = some (if a = b then .inl () else .inr false) := by
      refine Loop_same h (fun k ha hb => ?_) ?_
      · unfold tSlicesEqualWatchWatchL1
        simp only [show ((k : Int) < (a.length : Int)) by omega, if_true, ix_nat ha, ix_nat hb, watch_dec]
        rw [wrap64 (by omega) (by omega), show (k : Int) + 1 = ((k + 1 : Nat) : Int) by omega]
        by_cases he : a[k] = b[k] <;> simp [he]
      · unfold tSlicesEqualWatchWatchL1
        simp only [show ¬ ((a.length : Int) < (a.length : Int)) by omega, if_false]
    rw [hloop]
    by_cases he : a = b <;> simp [he]
  · simp only [show ¬ ((a.length : Int) = (b.length : Int)) by omega, decide_false, Bool.not_false, if_true]
    rw [decide_eq_false]
    intro he; exact h (by rw [he])
theorem sameW_eq (a b : WatchTable) (hl : a.L.length < 2 ^ 60) : tWatchSame a b = some (decide (a.L = b.L)) := by
  unfold tWatchSame
  rw [equalW_eq _ _ hl]; rfl
theorem r11Same_eq (a b : R11Table) (hl : a.L.length < 2 ^ 60) : tR11Same a b = some (decide (a.L = b.L)) := by
  unfold tR11Same
  by_cases h : a.L.length = b.L.length
  · simp only [show ((a.L.length : Int) = (b.L.length : Int)) by omega, decide_true, Bool.not_true, Bool.false_eq_true, if_false]
    have hloop : Loop (tR11SameL1 a b) 0 = some (if a.L = b.L then .inl () else .inr false) := by
      refine Loop_same h (fun k ha hb => ?_) ?_
      · unfold tR11SameL1
        simp only [show ((k : Int) < (a.L.length : Int)) by omega, if_true, ix_nat ha, ix_nat hb, r11watch_dec]
        rw [wrap64 (by omega) (by omega), show (k : Int) + 1 = ((k + 1 : Nat) : Int) by omega]
        by_cases he : a.L[k] = b.L[k] <;> simp [he]
      · unfold tR11SameL1
        simp only [show ¬ ((a.L.length : Int) < (a.L.length : Int)) by omega, if_false]
    rw [hloop]
    by_cases he : a.L = b.L <;> simp [he]
  · simp only [show ¬ ((a.L.length : Int) = (b.L.length : Int)) by omega, decide_false, Bool.not_false, if_true]
    rw [decide_eq_false]
    intro he; exact h (by rw [he])
theorem r11Events_eq (a b : List R11Event) (hl : a.length < 2 ^ 60) : tR11Events a b = some (decide (a = b)) := by
  unfold tR11Events
  by_cases h : a.length = b.length
  · simp only [show ((a.length : Int) = (b.length : Int)) by omega, decide_true, Bool.not_true, Bool.false_eq_true, if_false]
    have hloop : Loop (tR11EventsL1 a b) 0 = some (if a = b then .inl () else .inr false) := by
      refine Loop_same h (fun k ha hb => ?_) ?_
      · unfold tR11EventsL1
        simp only [show ((k : Int) < (a.length : Int)) by omega, if_true, ix_nat ha, ix_nat hb, r11event_dec]
        rw [wrap64 (by omega) (by omega), show (k : Int) + 1 = ((k + 1 : Nat) : Int) by omega]
        by_cases he : a[k] = b[k] <;> simp [he]
      · unfold tR11EventsL1
        simp only [show ¬ ((a.length : Int) < (a.length : Int)) by omega, if_false]
    rw [hloop]
    by_cases he : a = b <;> simp [he]
  · simp only [show ¬ ((a.length : Int) = (b.length : Int)) by omega, decide_false, Bool.not_false, if_true]
    rw [decide_eq_false]
    intro he; exact h (by rw [he])
/-! ### who is touched -/
def parB (p : List UInt8) : List UInt8 × Int := if rightB p then (if p = [47] then ([], 6) else (madeL (namesL p).dropLast, 0)) else ([], 13)
def touchB (c : WatchChange) (w : WatchWatch) : Bool :=
  (decide (1 ≤ c.Kind) && decide (c.Kind ≤ 3) && rightB c.Path) && (if w.Kids then decide ((parB c.Path).2 = 0) && (!decide (c.Kind = 2)) && decide ((parB c.Path).1 = w.Path) else decide (c.Path = w.Path))
theorem touch_guard (k : Int) (b : Bool) : (if k < 1 then some true else if (3 : Int) < k then some true else some (!b)) = some (!(decide (1 ≤ k) && decide (k ≤ 3) && b)) := by
  by_cases h1 : k < 1
  · rw [if_pos h1, decide_eq_false (show ¬ 1 ≤ k by omega)]; rfl
  · rw [if_neg h1, decide_eq_true (show 1 ≤ k by omega)]
    by_cases h2 : (3 : Int) < k
    · rw [if_pos h2, decide_eq_false (show ¬ k ≤ 3 by omega)]; rfl
    · rw [if_neg h2, decide_eq_true (show k ≤ 3 by omega)]; rfl
theorem touches_eq (c : WatchChange) (w : WatchWatch) : tWatchTouches c w = some (touchB c w) := by
  unfold tWatchTouches touchB
  rw [right_eq, bd_s, touch_guard, bd_s, parent_eq, bd_s]
  show _ = some ((decide (1 ≤ c.Kind) && decide (c.Kind ≤ 3) && rightB c.Path) && (if w.Kids then decide ((parB c.Path).2 = 0) && (!decide (c.Kind = 2)) && decide ((parB c.Path).1 = w.Path) else decide (c.Path = w.Path)))
  cases hg : (decide (1 ≤ c.Kind) && decide (c.Kind ≤ 3) && rightB c.Path) with
  | false => rfl
  | true =>
    rw [if_neg (by decide)]
    cases hk : w.Kids with
    | false => rfl
    | true =>
      rw [if_neg (by decide)]
      show bd (if (parB c.Path).2 = 0 then if (!decide (c.Kind = 2)) = true then some (decide ((parB c.Path).1 = w.Path)) else some false else some false) _ = _
      by_cases h1 : (parB c.Path).2 = 0 <;> by_cases h2 : c.Kind = 2 <;> simp [h1, h2]
theorem r11touches_eq (c : WatchChange) (w : WatchWatch) : tR11Touches (plC c) (plW w) = some (touchB c w) := by
  unfold tR11Touches touchB
  have e1 : tR08Right (plC c).Path = some (rightB c.Path) := r08right_eq c.Path
  have e2 : tR08Parent (plC c).Path = some (parB c.Path) := r08parent_eq c.Path
  rw [e1, bd_s, e2, bd_s]
  show bd (if c.Kind < 1 then some true else if (3 : Int) < c.Kind then some true else some (!rightB c.Path)) _ = _
  rw [touch_guard, bd_s]
  cases hg : (decide (1 ≤ c.Kind) && decide (c.Kind ≤ 3) && rightB c.Path) with
  | false => rfl
  | true =>
    rw [if_neg (by decide)]
    show (if (!w.Kids) = true then some (decide (c.Path = w.Path)) else bd (if (!decide (c.Kind = 2)) = true then if (parB c.Path).2 = 0 then some (decide ((parB c.Path).1 = w.Path)) else some false else some false) fun w2 => some w2) = _
    cases hk : w.Kids with
    | false => rfl
    | true =>
      rw [if_neg (by decide)]
      by_cases h1 : (parB c.Path).2 = 0 <;> by_cases h2 : c.Kind = 2 <;> simp [h1, h2]
/-! ### who is told -/
def toldE (c : WatchChange) (L : List WatchWatch) : List WatchEvent := (L.filter (touchB c)).map fun w => ⟨w, c⟩
def stayW (c : WatchChange) (L : List WatchWatch) : List WatchWatch := L.filter fun w => !touchB c w
theorem told_stay (c : WatchChange) (L : List WatchWatch) : (toldE c L).length + (stayW c L).length = L.length := by
  unfold toldE stayW
  rw [List.length_map]
  induction L with
  | nil => rfl
  | cons x r ih => cases h : touchB c x <;> simp [h] <;> omega
theorem del_fire (c : WatchChange) : ∀ (L : List WatchWatch) (out : List WatchEvent), out.length + L.length ≤ 2 ^ 20 → tDelC (fun u s => tWatchFireF1 u c s) out L = some (stayW c L, out ++ toldE c L) := by
  intro L
  induction L with
  | nil => intro out _; simp [tDelC, stayW, toldE]
  | cons x r ih =>
    intro out hl
    simp only [List.length_cons] at hl
    unfold tDelC
    have e1 : tWatchFireF1 x c out = some (touchB c x, if touchB c x then out ++ [⟨x, c⟩] else out) := by
      unfold tWatchFireF1
      rw [touches_eq, bd_s]
      cases touchB c x with
      | false => rfl
      | true => rw [if_pos rfl, if_pos (by simp only [List.length_cons, List.length_nil]; omega), bd_s]; rfl
    rw [e1, bd_s]
    dsimp only
    rw [ih _ (by split <;> simp <;> omega), bd_s]
    cases h : touchB c x <;> simp [stayW, toldE, h]
def fireS (st : List WatchWatch × List WatchEvent) (c : WatchChange) : List WatchWatch × List WatchEvent := (stayW c st.1, st.2 ++ toldE c st.1)
def fireL (L : List WatchWatch) (l : List WatchChange) : List WatchWatch × List WatchEvent := l.foldl fireS (L, [])
theorem fold_len (l : List WatchChange) : ∀ st : List WatchWatch × List WatchEvent, (l.foldl fireS st).1.length + (l.foldl fireS st).2.length = st.1.length + st.2.length := by
  induction l with
  | nil => intro st; rfl
  | cons c l ih =>
    intro st
    rw [List.foldl_cons, ih]
    have := told_stay c st.1
    simp only [fireS, List.length_append]
    omega
theorem fireL_len (L : List WatchWatch) (l : List WatchChange) : (fireL L l).1.length + (fireL L l).2.length = L.length := by
  have := fold_len l (L, []); simpa [fireL] using this
theorem foldT_succ {α β : Type} {f : β → α → β} {b : β} {L : List α} {k : Nat} (hk : k < L.length) : (L.take (k + 1)).foldl f b = f ((L.take k).foldl f b) L[k] := by
  rw [List.take_add_one, List.getElem?_eq_getElem hk, List.foldl_append]; rfl
theorem fire_eq (t : WatchTable) (l : List WatchChange) (h1 : t.L.length ≤ 1000) (h2 : l.length ≤ 1000) : tWatchFire t l = some (⟨(fireL t.L l).1⟩, (fireL t.L l).2) := by
  unfold tWatchFire
  have e0 : tClone 32 t.L = some t.L := by unfold tClone; rw [if_pos (by omega)]
  have hloop : Loop (tWatchFireL1 l) (t.L, ([] : List WatchEvent), 0) = some (fireL t.L l) := by
    refine Gives.eq (Gives.count (fun k => ((fireL t.L (l.take k)).1, (fireL t.L (l.take k)).2, (k : Int))) l.length (fun _ => True) rfl trivial (fun k hk _ => ?_) (fun _ => ?_))
    · unfold tWatchFireL1
      dsimp only
      have hlen := fireL_len t.L (l.take k)
      rw [if_pos (by omega), ix_nat hk, del_fire _ _ _ (by omega), bd_s, wrap64 (by omega) (by omega)]
      refine .mk ⟨?_, trivial⟩
      have : fireL t.L (l.take (k + 1)) = fireS (fireL t.L (l.take k)) l[k] := foldT_succ hk
      rw [this]
      rfl
    · unfold tWatchFireL1
      dsimp only
      rw [if_neg (by omega)]
      exact .mk (by rw [List.take_length])
  rw [e0, bd_s, hloop, bd_s]
theorem r11fire1 (l : List WatchChange) (L : List WatchWatch) (out : List WatchEvent) {i : Nat} (hi : i < l.length) (h1 : out.length + L.length ≤ 2 ^ 20) :
    Loop (tR11FireL1 (l.map plC) (L.map plW, out.map plE, (i : Int))) (out.map plE, ([] : List R11Watch), 0) = some ((out ++ toldE l[i] L).map plE, (stayW l[i] L).map plW) := by
  refine Gives.eq (Gives.count (fun k => ((out ++ toldE l[i] (L.take k)).map plE, (stayW l[i] (L.take k)).map plW, (k : Int))) L.length (fun _ => True) (by simp [toldE, stayW]) trivial (fun k hk _ => ?_) (fun _ => ?_))
  · unfold tR11FireL1
    dsimp only
    have hl1 : ((L.take k).filter (touchB l[i])).length ≤ L.length := filterT_le
    have hl2 : ((L.take k).filter fun w => !touchB l[i] w).length ≤ L.length := filterT_le
    have hka : k < (L.map plW).length := by rw [List.length_map]; exact hk
    have hia : i < (l.map plC).length := by rw [List.length_map]; exact hi
    have e1 : (L.map plW)[k] = plW L[k] := List.getElem_map _
    have e2 : (l.map plC)[i] = plC l[i] := List.getElem_map _
    rw [if_pos (by rw [List.length_map]; omega), ix_nat hia, ix_nat hka, e1, e2, r11touches_eq, bd_s, wrap64 (by omega) (by omega)]
    have hs1 : toldE l[i] (L.take (k + 1)) = toldE l[i] (L.take k) ++ (if touchB l[i] L[k] then [⟨L[k], l[i]⟩] else []) := by
      unfold toldE; rw [filterT_succ hk, List.map_append]; cases touchB l[i] L[k] <;> rfl
    have hs2 : stayW l[i] (L.take (k + 1)) = stayW l[i] (L.take k) ++ (if touchB l[i] L[k] then [] else [L[k]]) := by
      unfold stayW; rw [filterT_succ hk]; cases touchB l[i] L[k] <;> rfl
    rw [hs1, hs2]
    cases ht : touchB l[i] L[k] with
    | true =>
      rw [if_pos rfl, ix_nat hka, ix_nat hia, e1, e2, if_pos (by simp only [List.length_map, List.length_append, toldE, List.length_cons, List.length_nil]; omega), bd_s]
      refine .mk ⟨?_, trivial⟩
      simp [plE]
    | false =>
      rw [if_neg (by decide), ix_nat hka, e1, if_pos (by simp only [List.length_map, List.length_append, stayW, List.length_cons, List.length_nil]; omega), bd_s]
      refine .mk ⟨?_, trivial⟩
      simp
  · unfold tR11FireL1
    dsimp only
    rw [if_neg (by rw [List.length_map]; omega)]
    exact .mk (by rw [List.take_length])
/-! ### without a client's -/
def goW (client : Int) (L : List WatchWatch) : List WatchWatch := L.filter fun w => !decide (w.Client = client)
theorem cancel_eq (t : WatchTable) (client : Int) (h1 : t.L.length ≤ 1000) : tWatchCancel t client = some ⟨goW client t.L⟩ := by
  unfold tWatchCancel
  have e0 : tClone 32 t.L = some t.L := by unfold tClone; rw [if_pos (by omega)]
  have hd : ∀ L : List WatchWatch, tDelP (fun u => tWatchCancelF1 u client) L = some (goW client L) := by
    intro L
    induction L with
    | nil => rfl
    | cons x r ih =>
      unfold tDelP tWatchCancelF1
      rw [bd_s]
      unfold tWatchCancelF1 at ih
      rw [ih, bd_s]
      by_cases h : x.Client = client <;> simp [goW, h]
  rw [e0, bd_s, hd, bd_s]
theorem r11cancel_eq (L : List WatchWatch) (client : Int) (h1 : L.length ≤ 1000) : tR11Cancel ⟨L.map plW⟩ client = some ⟨(goW client L).map plW⟩ := by
  unfold tR11Cancel
  have hloop : Loop (tR11CancelL1 ⟨L.map plW⟩ client) (([] : List R11Watch), 0) = some ((L.map plW).filter fun w => !decide (w.Client = client)) := by
    refine loop_filter (L.map plW) (fun w => !decide (w.Client = client)) (fun k hk => ?_) ?_
    · unfold tR11CancelL1
      dsimp only
      have hl : (((L.map plW).take k).filter fun w => !decide (w.Client = client)).length ≤ (L.map plW).length := filterT_le
      rw [List.length_map] at hl
      rw [if_pos (by omega), ix_nat hk, wrap64 (by rw [List.length_map] at hk; omega) (by rw [List.length_map] at hk; omega)]
      by_cases h : ((L.map plW)[k]).Client = client
      · have hd : (!decide (((L.map plW)[k]).Client = client)) = false := by simp only [h, decide_true, Bool.not_true]
        rw [hd, if_neg (by decide), bd_s]
        simp
      · rw [decide_eq_false h, if_pos (by decide), ix_nat hk, if_pos (by simp only [List.length_cons, List.length_nil]; omega), bd_s]
        simp
    · unfold tR11CancelL1
      dsimp only
      rw [if_neg (by omega)]
  rw [hloop, bd_s]
  congr 2
  unfold goW
  rw [List.filter_map]
  rfl
end Dn.S
