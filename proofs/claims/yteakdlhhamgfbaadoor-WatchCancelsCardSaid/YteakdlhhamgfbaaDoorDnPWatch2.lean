import Derived.Test.YteakdlhhamgfbaaDoorDnPWatch
/-
  Watches: which tables may be; what they come to. Conditions: none.
-/
open Go Dn
set_option linter.unusedVariables false
set_option linter.unusedSimpArgs false
namespace Dn.S
structure RightW (L : List WatchWatch) : Prop where
  len : L.length ≤ 200
  all : ∀ w ∈ L, rightB w.Path = true ∧ 0 ≤ w.Client
  nodup : L.Nodup
def okW (L : List WatchWatch) (k : Nat) : Prop := ∃ hk : k < L.length, (rightB L[k].Path = true ∧ 0 ≤ L[k].Client) ∧ L[k] ∉ L.take k
theorem nodup_iff {L : List WatchWatch} : (∀ k, k < L.length → okW L k) ↔ (∀ w ∈ L, rightB w.Path = true ∧ 0 ≤ w.Client) ∧ L.Nodup := by
  constructor
  · intro h
    refine ⟨fun w hw => ?_, ?_⟩
    · obtain ⟨k, hk, rfl⟩ := List.mem_iff_getElem.1 hw
      exact (h k hk).2.1
    · rw [List.Nodup, List.pairwise_iff_getElem]
      intro i j hi hj hij e
      obtain ⟨_, _, hn⟩ := h j hj
      apply hn
      rw [← e]
      rw [List.mem_take_iff_getElem]
      exact ⟨i, by omega, rfl⟩
  · rintro ⟨h1, h2⟩ k hk
    refine ⟨hk, h1 _ (List.getElem_mem hk), fun hm => ?_⟩
    obtain ⟨i, hi, e⟩ := List.mem_take_iff_getElem.1 hm
    rw [List.Nodup, List.pairwise_iff_getElem] at h2
    exact h2 i k (by omega) hk (by omega) e
theorem r11has_eq (L : List R11Watch) (w : R11Watch) (hl : L.length < 2 ^ 60) : tR11Has L w = some (decide (w ∈ L)) := by
  unfold tR11Has
  have hA := Loop_all (body := tR11HasL1 L w) L.length (fun k => L[k]? ≠ some w) true (fun k hk _ => ?_) ?_
  · obtain ⟨r, er, hr⟩ := hA
    rw [er, bd_s]
    rcases hr with ⟨rfl, h⟩ | ⟨rfl, k, hk, h⟩
    · dsimp only
      rw [decide_eq_false]
      intro hm
      obtain ⟨k, hk, rfl⟩ := List.mem_iff_getElem.1 hm
      exact h k hk (List.getElem?_eq_getElem hk)
    · dsimp only
      rw [decide_eq_true]
      have := Decidable.not_not.1 h
      exact List.mem_of_getElem? this
  · unfold tR11HasL1
    rw [if_pos (by omega), ix_nat hk, r11watch_dec, wrap64 (by omega) (by omega), List.getElem?_eq_getElem hk]
    by_cases h : L[k] = w
    · rw [decide_eq_true h, if_pos rfl]
      exact ⟨fun hh => absurd (by rw [h]) hh, fun _ => rfl⟩
    · rw [decide_eq_false h, if_neg (by decide)]
      exact ⟨fun _ => rfl, fun hh => absurd (fun e => h (Option.some.inj e)) hh⟩
  · unfold tR11HasL1
    rw [if_neg (by omega)]
theorem mem_plW {L : List WatchWatch} {w : WatchWatch} : plW w ∈ L.map plW ↔ w ∈ L := by
  rw [List.mem_map]
  exact ⟨fun ⟨x, hx, e⟩ => by rw [← plW_inj.1 e]; exact hx, fun h => ⟨w, h, rfl⟩⟩
theorem r11right_eq (L : List WatchWatch) (hl : L.length ≤ 1000) : Gives (tR11Right ⟨L.map plW⟩) fun b => b = true ↔ RightW L := by
  unfold tR11Right
  refine Gives.bd (Loop_all L.length (okW L) false (fun k hk _ => ?_) ?_) ?_
  · unfold tR11RightL1
    dsimp only
    have hka : k < (L.map plW).length := by rw [List.length_map]; exact hk
    have e1 : (L.map plW)[k] = plW L[k] := List.getElem_map _
    have e2 : tR08Right (plW L[k]).Path = some (rightB L[k].Path) := r08right_eq L[k].Path
    rw [if_pos (by rw [List.length_map]; omega), ix_nat hka, e1, e2, bd_s, wrap64 (by omega) (by omega)]
    have e3 : tR11Has (List.drop (Int.toNat 0) (List.take (Int.toNat (k : Int)) (L.map plW))) (plW L[k]) = some (decide (L[k] ∈ L.take k)) := by
      rw [show Int.toNat 0 = 0 from rfl, List.drop_zero, Int.toNat_natCast, ← List.map_take, r11has_eq _ _ (by rw [List.length_map, List.length_take]; omega)]
      congr 1
      rw [decide_eq_decide, mem_plW]
    have hw : (if (!rightB L[k].Path) = true then some true else ix (L.map plW) (k : Int) fun y1 => if y1.Client < 0 then some true else if (0 : Int) ≤ 0 ∧ (0 : Int) ≤ (k : Int) ∧ (k : Int) ≤ ((L.map plW).length : Int) then ix (L.map plW) (k : Int) fun y2 => bd (tR11Has (List.drop (Int.toNat 0) (List.take (Int.toNat (k : Int)) (L.map plW))) y2) fun rA1 => some rA1 else none) = some (!decide ((rightB L[k].Path = true ∧ 0 ≤ L[k].Client) ∧ L[k] ∉ L.take k)) := by
      cases hb : rightB L[k].Path with
      | false => simp
      | true =>
        rw [if_neg (by decide), ix_nat hka, e1]
        by_cases hc : L[k].Client < 0
        · have hc' : (plW L[k]).Client < 0 := hc
          rw [if_pos hc', decide_eq_false (fun h => by have := h.1.2; omega)]; rfl
        · have hc' : ¬ (plW L[k]).Client < 0 := hc
          rw [if_neg hc', if_pos ⟨by omega, by omega, by rw [List.length_map]; omega⟩, ix_nat hka, e1, e3, bd_s]
          by_cases hm : L[k] ∈ L.take k
          · rw [decide_eq_true hm, decide_eq_false (fun h => h.2 hm)]; rfl
          · rw [decide_eq_false hm, decide_eq_true ⟨⟨rfl, by omega⟩, hm⟩]; rfl
    rw [hw, bd_s]
    by_cases h : (rightB L[k].Path = true ∧ 0 ≤ L[k].Client) ∧ L[k] ∉ L.take k
    · rw [decide_eq_true h]
      exact ⟨fun _ => rfl, fun hn => absurd ⟨hk, h⟩ hn⟩
    · rw [decide_eq_false h]
      exact ⟨fun ⟨_, hh⟩ => absurd hh h, fun _ => rfl⟩
  · unfold tR11RightL1
    dsimp only
    rw [if_neg (by rw [List.length_map]; omega)]
  · rintro r (⟨rfl, h⟩ | ⟨rfl, k, hk, h⟩)
    · dsimp only
      rw [List.length_map]
      have hh := nodup_iff.1 h
      refine .mk ⟨fun hd => ⟨by have := of_decide_eq_true hd; omega, hh.1, hh.2⟩, fun hr => decide_eq_true (by have := hr.len; omega)⟩
    · exact .mk ⟨fun h => (by cases h), fun hr => absurd (nodup_iff.2 ⟨hr.all, hr.nodup⟩ k hk) h⟩
/-! ### the program's own, by a map -/
def kyW (w : WatchWatch) : List MV := [.s w.Path, .i .i64 w.Client, .b w.Kids]
theorem kyW_eq (x y : WatchWatch) : mvsEq (kyW x) (kyW y) = decide (x = y) := by
  cases x; cases y
  rw [Bool.eq_iff_iff]
  simp [kyW, mvsEq, mvEq]
theorem watchright_eq (L : List WatchWatch) (hl : L.length ≤ 1000) : Gives (tWatchRight ⟨L⟩) fun b => b = true ↔ RightW L := by
  unfold tWatchRight
  refine Gives.bd (P := fun r => (r = .inl () ∧ ∀ k, k < L.length → okW L k) ∨ (r = .inr false ∧ ∃ k, k < L.length ∧ ¬ okW L k)) ?_ ?_
  · refine Gives.loop (fun st => ∃ k : Nat, k ≤ L.length ∧ st.2 = (k : Int) ∧ (∀ w, mgetB st.1 (kyW w) = decide (w ∈ L.take k)) ∧ ∀ j, j < k → okW L j) (fun st => ((L.length : Int) - st.2).toNat) ⟨0, Nat.zero_le _, rfl, fun w => by simp [mgetB], fun j hj => by omega⟩ ?_
    rintro ⟨es, i⟩ ⟨k, hk, rfl, hm, hok⟩
    unfold tWatchRightL1
    dsimp only
    dsimp only at hm
    by_cases hlt : k < L.length
    rotate_left
    · rw [if_neg (by omega)]
      exact .mk (.inl ⟨rfl, fun j hj => hok j (by omega)⟩)
    rw [if_pos (by omega), ix_nat hlt, right_eq, bd_s, wrap64 (by omega) (by omega)]
    have hmk : mgetB es [.s L[k].Path, .i .i64 L[k].Client, .b L[k].Kids] = decide (L[k] ∈ L.take k) := hm L[k]
    have hw : (if (!rightB L[k].Path) = true then some true else if L[k].Client < 0 then some true else some (mgetB es [.s L[k].Path, .i .i64 L[k].Client, .b L[k].Kids])) = some (!decide ((rightB L[k].Path = true ∧ 0 ≤ L[k].Client) ∧ L[k] ∉ L.take k)) := by
      rw [hmk]
      cases hb : rightB L[k].Path with
      | false => simp
      | true =>
        rw [if_neg (by decide)]
        by_cases hc : L[k].Client < 0
        · rw [if_pos hc, decide_eq_false (fun h => by have := h.1.2; omega)]; rfl
        · rw [if_neg hc]
          by_cases hm : L[k] ∈ L.take k
          · rw [decide_eq_true hm, decide_eq_false (fun h => h.2 hm)]; rfl
          · rw [decide_eq_false hm, decide_eq_true ⟨⟨rfl, by omega⟩, hm⟩]; rfl
    rw [hw, bd_s]
    by_cases h : (rightB L[k].Path = true ∧ 0 ≤ L[k].Client) ∧ L[k] ∉ L.take k
    rotate_left
    · rw [decide_eq_false h, if_pos (by decide)]
      exact .mk (.inr ⟨rfl, k, hlt, fun ⟨_, hh⟩ => h hh⟩)
    · rw [decide_eq_true h, if_neg (by decide)]
      refine .mk ⟨⟨k + 1, by omega, by dsimp only; omega, fun w => ?_, fun j hj => ?_⟩, by dsimp only; omega⟩
      · show mgetB (mput es (kyW L[k]) (.b false) (.b true)) (kyW w) = _
        have ht : L.take (k + 1) = L.take k ++ [L[k]] := by rw [List.take_add_one, List.getElem?_eq_getElem hlt]; rfl
        rw [ht, mgetB_eq]
        by_cases he : L[k] = w
        · rw [← he, mget_put_same (by rw [kyW_eq]; simp)]
          exact (decide_eq_true (List.mem_append.2 (.inr (List.mem_singleton.2 rfl)))).symm
        · rw [mget_put_other (by rw [kyW_eq]; exact decide_eq_false he), ← mgetB_eq, hm w, decide_eq_decide]
          simp only [List.mem_append, List.mem_singleton]
          exact ⟨fun h => .inl h, fun h => h.resolve_right fun e => he e.symm⟩
      · by_cases hjk : j = k
        · subst hjk; exact ⟨hlt, h⟩
        · exact hok j (by omega)
  · rintro r (⟨rfl, h⟩ | ⟨rfl, k, hk, h⟩)
    · dsimp only
      have hh := nodup_iff.1 h
      refine .mk ⟨fun hd => ⟨by have := of_decide_eq_true hd; omega, hh.1, hh.2⟩, fun hr => decide_eq_true (by have := hr.len; omega)⟩
    · exact .mk ⟨fun h => (by cases h), fun hr => absurd (nodup_iff.2 ⟨hr.all, hr.nodup⟩ k hk) h⟩
/-! ### a watch more -/
def addW (L : List WatchWatch) (w : WatchWatch) : List WatchWatch × Int :=
  if rightB w.Path = false then (L, 13) else if w.Client < 0 then (L, 1) else if w ∈ L then (L, 0) else if 200 ≤ L.length then (L, 9) else (L ++ [w], 0)
theorem contains_eq11 (L : List WatchWatch) (w : WatchWatch) (hl : L.length < 2 ^ 60) : tSlicesContainsWatchWatch L w = some (decide (w ∈ L)) := by
  unfold tSlicesContainsWatchWatch tSlicesIndexWatchWatch
  have hloop : Gives (Loop (tSlicesIndexWatchWatchL1 L w) 0) fun r => (r = .inl () ∧ w ∉ L) ∨ ∃ k : Nat, r = .inr (k : Int) ∧ w ∈ L := by
    refine Gives.count (fun k => (k : Int)) L.length (fun k => w ∉ L.take k) rfl (by simp) (fun k hk hp => ?_) (fun hp => ?_)
    · unfold tSlicesIndexWatchWatchL1
      rw [if_pos (by omega), ix_nat hk, watch_dec, wrap64 (by omega) (by omega)]
      by_cases h : w = L[k]
      · rw [decide_eq_true h, if_pos rfl]
        exact .mk (.inr ⟨k, rfl, by rw [h]; exact List.getElem_mem hk⟩)
      · rw [decide_eq_false h, if_neg (by decide)]
        refine .mk ⟨by omega, ?_⟩
        rw [List.take_add_one, List.getElem?_eq_getElem hk]
        simp only [Option.toList_some, List.mem_append, List.mem_singleton]
        rintro (h1 | h1)
        · exact hp h1
        · exact h h1
    · unfold tSlicesIndexWatchWatchL1
      rw [if_neg (by omega)]
      rw [List.take_length] at hp
      exact .mk (.inl ⟨rfl, hp⟩)
  obtain ⟨r, er, hr⟩ := hloop
  rw [er, bd_s]
  rcases hr with ⟨rfl, h⟩ | ⟨k, rfl, h⟩
  · dsimp only
    rw [bd_s, decide_eq_false h]; rfl
  · dsimp only
    rw [bd_s, decide_eq_true h, decide_eq_true (by omega)]
theorem add_eq11 (L : List WatchWatch) (w : WatchWatch) (hl : L.length ≤ 1000) : tWatchAdd ⟨L⟩ w = some (⟨(addW L w).1⟩, (addW L w).2) := by
  unfold tWatchAdd addW
  rw [right_eq, bd_s]
  cases hb : rightB w.Path with
  | false => rfl
  | true =>
    rw [if_neg (show ¬ (!true) = true by decide), if_neg (show ¬ true = false by decide)]
    by_cases hc : w.Client < 0
    · rw [if_pos hc, if_pos hc]
    rw [if_neg hc, if_neg hc, contains_eq11 _ _ (show L.length < 2 ^ 60 by omega), bd_s]
    by_cases hm : w ∈ L
    · rw [decide_eq_true hm, if_pos rfl, if_pos hm]
    rw [decide_eq_false hm, if_neg (by decide), if_neg hm]
    dsimp only
    by_cases h2 : 200 ≤ L.length
    · rw [if_pos (by omega), if_pos h2]
    have e0 : tClone 32 L = some L := by unfold tClone; rw [if_pos (by omega)]
    rw [if_neg (by omega), if_neg h2, e0, bd_s, if_pos (by simp only [List.length_cons, List.length_nil]; omega)]
theorem r11add_eq (L : List WatchWatch) (w : WatchWatch) (hl : L.length ≤ 1000) : tR11Add ⟨L.map plW⟩ (plW w) = some (⟨(addW L w).1.map plW⟩, (addW L w).2) := by
  unfold tR11Add addW
  have e1 : tR08Right (plW w).Path = some (rightB w.Path) := r08right_eq w.Path
  rw [e1, bd_s]
  cases hb : rightB w.Path with
  | false => rfl
  | true =>
    rw [if_neg (show ¬ (!true) = true by decide), if_neg (show ¬ true = false by decide)]
    by_cases hc : w.Client < 0
    · have hc' : (plW w).Client < 0 := hc
      rw [if_pos hc', if_pos hc]
    have hc' : ¬ (plW w).Client < 0 := hc
    have e2 : tR11Has (L.map plW) (plW w) = some (decide (w ∈ L)) := by
      rw [r11has_eq _ _ (by rw [List.length_map]; omega)]
      congr 1
      rw [decide_eq_decide, mem_plW]
    rw [if_neg hc', if_neg hc]
    dsimp only
    rw [e2, bd_s]
    by_cases hm : w ∈ L
    · rw [decide_eq_true hm, if_pos rfl, if_pos hm]
    rw [decide_eq_false hm, if_neg (by decide), if_neg hm, List.length_map]
    by_cases h2 : 200 ≤ L.length
    · rw [if_pos (by omega), if_pos h2]
    rw [if_neg (by omega), if_neg h2, if_pos (by simp only [List.length_nil]; omega), List.nil_append, if_pos (by simp only [List.length_map, List.length_cons, List.length_nil]; omega)]
    simp
/-! ### folds -/
theorem fold_out (l : List WatchChange) : ∀ (L : List WatchWatch) (out : List WatchEvent), l.foldl fireS (L, out) = ((fireL L l).1, out ++ (fireL L l).2) := by
  induction l with
  | nil => intro L out; simp [fireL]
  | cons c l ih =>
    intro L out
    unfold fireL
    rw [List.foldl_cons, List.foldl_cons]
    show l.foldl fireS (stayW c L, out ++ toldE c L) = ((l.foldl fireS (stayW c L, [] ++ toldE c L)).1, out ++ (l.foldl fireS (stayW c L, [] ++ toldE c L)).2)
    rw [ih, ih]
    simp
theorem fireL_cons (L : List WatchWatch) (c : WatchChange) (l : List WatchChange) : fireL L (c :: l) = ((fireL (stayW c L) l).1, toldE c L ++ (fireL (stayW c L) l).2) := by
  unfold fireL
  rw [List.foldl_cons]
  show l.foldl fireS (stayW c L, [] ++ toldE c L) = _
  rw [List.nil_append, fold_out]; rfl
theorem fireL_append (L : List WatchWatch) (l m : List WatchChange) : fireL L (l ++ m) = ((fireL (fireL L l).1 m).1, (fireL L l).2 ++ (fireL (fireL L l).1 m).2) := by
  conv => lhs; unfold fireL
  rw [List.foldl_append, fold_out l L []]
  simp only [List.nil_append]
  rw [fold_out m]
/-! ### the laws -/
theorem watchPieces_all (a : WatchTable) (l m : List WatchChange) : tL11WatchPieces a l m = some true := by
  unfold tL11WatchPieces
  obtain ⟨b1, e1, h1⟩ := few11_eq a
  obtain ⟨b3, e3, h3⟩ := short11_eq l
  obtain ⟨b4, e4, h4⟩ := short11_eq m
  rw [e1, bd_s, evL11Alive]
  cases b1 with
  | false => rfl
  | true =>
  have hl := (h1 rfl).1
  rw [if_neg (by decide), plain11_eq a (by omega), bd_s]
  obtain ⟨b2, e2, h2⟩ := r11right_eq a.L (by omega)
  rw [e2, bd_s]
  cases b2 with
  | false => rfl
  | true =>
  rw [if_neg (by decide), e3, bd_s]
  cases b3 with
  | false => rfl
  | true =>
  rw [if_neg (by decide), e4, bd_s]
  cases b4 with
  | false => rfl
  | true =>
  have hs := (h3 rfl).1
  have hs2 := (h4 rfl).1
  have hf1 := fireL_len a.L l
  have hf2 := fireL_len (fireL a.L l).1 m
  have hf3 := fireL_len a.L (l ++ m)
  have ha := fireL_append a.L l m
  rw [bd_s, if_neg (by decide), fire_eq a l (by omega) (by omega), bd_s]
  dsimp only
  rw [fire_eq ⟨(fireL a.L l).1⟩ m (show (fireL a.L l).1.length ≤ 1000 by omega) (by omega), bd_s]
  dsimp only
  rw [if_pos (by simp only [List.length_nil]; omega), List.nil_append, if_pos (by omega), fire_eq a (l ++ m) (by omega) (by rw [List.length_append]; omega), bd_s, bd_s, if_pos rfl, sameW_eq _ _ (show (fireL (fireL a.L l).1 m).1.length < 2 ^ 60 by omega), bd_s]
  dsimp only
  have e5 : (fireL (fireL a.L l).1 m).1 = (fireL a.L (l ++ m)).1 := by rw [ha]
  have e6 : (fireL a.L l).2 ++ (fireL (fireL a.L l).1 m).2 = (fireL a.L (l ++ m)).2 := by rw [ha]
  rw [decide_eq_true e5, if_pos rfl, if_pos (by simp only [List.length_nil]; omega), List.nil_append, if_pos (by omega), e6, events_eq _ (by omega), bd_s, bd_s, r11Events_eq _ _ (by rw [List.length_map]; omega), bd_s, decide_eq_true rfl, bd_s]
theorem same_bool {a b : Bool} {p : Prop} (h1 : a = true ↔ p) (h2 : b = true ↔ p) : a = b := by
  rw [Bool.eq_iff_iff, h1, h2]
theorem watchMay_all (a b : WatchTable) (c : WatchChange) : tL11WatchMay a b c = some true := by
  unfold tL11WatchMay
  obtain ⟨b1, e1, h1⟩ := few11_eq a
  obtain ⟨b2, e2, h2⟩ := few11_eq b
  rw [e1, bd_s, evL11Alive]
  cases b1 with
  | false => rfl
  | true =>
  have hl := (h1 rfl).1
  rw [if_neg (by decide), e2, bd_s]
  cases b2 with
  | false => rfl
  | true =>
  have hl2 := (h2 rfl).1
  rw [if_neg (by decide)]
  by_cases hp : (300 : Int) < (c.Path.length : Int)
  · rw [decide_eq_true hp]; rfl
  rw [decide_eq_false hp, bd_s, if_neg (by decide)]
  have hloop : Loop (tL11WatchMayL1 a c) 0 = some (.inl ()) := by
    refine Gives.eq (Gives.count (fun k => (k : Int)) a.L.length (fun _ => True) rfl trivial (fun k hk _ => ?_) (fun _ => ?_))
    · unfold tL11WatchMayL1
      rw [if_pos (by omega), ix_nat hk, ix_nat hk, touches_eq, bd_s, one_eq, bd_s]
      have := r11touches_eq c a.L[k]
      have e5 : tR11Touches (⟨c.Kind, c.Path⟩ : R11Change) (plW a.L[k]) = some (touchB c a.L[k]) := this
      rw [e5, bd_s, decide_eq_true rfl, if_neg (by decide), wrap64 (by omega) (by omega)]
      exact .mk ⟨by omega, trivial⟩
    · unfold tL11WatchMayL1
      rw [if_neg (by omega)]
      exact .mk rfl
  rw [hloop, bd_s]
  dsimp only
  obtain ⟨q1, g1, k1⟩ := watchright_eq a.L (by omega)
  obtain ⟨q2, g2, k2⟩ := r11right_eq a.L (by omega)
  have g1 : tWatchRight a = some q1 := g1
  have hq := same_bool k1 k2
  subst hq
  rw [bd_s, if_pos rfl, g1, bd_s, plain11_eq a (by omega), bd_s, g2, bd_s, if_pos rfl, sameW_eq a b (by omega), bd_s, bd_s, plain11_eq b (by omega), bd_s, r11Same_eq _ _ (by dsimp only; rw [List.length_map]; omega), bd_s, bd_s]
  congr 1
  rw [decide_eq_true_eq, decide_eq_decide]
  dsimp only
  constructor
  · intro h; rw [h]
  · intro h
    have hi : ∀ x y : WatchWatch, plW x = plW y → x = y := fun x y => plW_inj.1
    exact (List.map_inj_right hi).1 h
end Dn.S
