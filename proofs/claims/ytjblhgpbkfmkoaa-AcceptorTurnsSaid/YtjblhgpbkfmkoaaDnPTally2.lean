import Derived.Test.YtjblhgpbkfmkoaaDnPTally
/-
  Tallies: adding, counting and the best, as the document says. Conditions: none.
-/
open Go Dn
set_option linter.unusedVariables false
set_option linter.unusedSimpArgs false
namespace Dn.S
/-- what the document's loop has behind k votes -/
def midV (L : List ApiAccept) (a : ApiAccept) (k : Nat) : List ApiAccept := if k ≤ lbK vk L a.By then L.take k else L.take (lbK vk L a.By) ++ [a] ++ (L.take k).drop (lbK vk L a.By + if hasK vk L a.By then 1 else 0)
theorem midV_len {L : List ApiAccept} {a : ApiAccept} {k : Nat} (hk : k ≤ L.length) : (midV L a k).length ≤ k + 1 := by
  unfold midV
  have := lbK_le (key := vk) L a.By
  split
  · rw [List.length_take]; omega
  · simp only [List.length_append, List.length_take, List.length_drop, List.length_cons, List.length_nil]; omega
theorem r18add_eq {L : List ApiAccept} {a : ApiAccept} (hs : IncK vk L) (hl : L.length < 2 ^ 32) : tR18Add ⟨L⟩ a = some (⟨(addV L a).1⟩, (addV L a).2) := by
  unfold tR18Add addV
  rw [r18may_eq]
  by_cases hm : MayV a
  rotate_left
  · simp [hm]
  simp only [bd_s, hm, decide_true, Bool.not_true, Bool.false_eq_true, if_false]
  obtain ⟨h1, h2⟩ := hs.lb a.By
  have hle := lbK_le (key := vk) L a.By
  have hloop : Gives (Loop (tR18AddL1 ⟨L⟩ a) (([] : List ApiAccept), ([] : List ApiAccept), false, 0)) fun r => (oldV L a = true ∧ r = .inr (L, false)) ∨ (oldV L a = false ∧ r = .inl ([], midV L a L.length, decide (lbK vk L a.By < L.length))) := by
    refine Gives.count (fun k => (([] : List ApiAccept), midV L a k, decide (lbK vk L a.By < k), (k : Int))) L.length (fun k => oldV L a = true → k ≤ lbK vk L a.By) (by simp [midV]) (fun _ => Nat.zero_le _) (fun k hk hp => ?_) (fun hp => ?_)
    · unfold tR18AddL1
      simp only [show ((k : Int) < (L.length : Int)) by omega, if_true, ix_nat hk]
      have hml := midV_len (L := L) (a := a) (k := k) (by omega)
      rcases Nat.lt_trichotomy k (lbK vk L a.By) with hlt | heq | hgt
      · have hb := h1 k hk hlt
        have hne : ¬ L[k].By = a.By := by simp only [vk] at hb; omega
        have hng : ¬ a.By ≤ L[k].By := by simp only [vk] at hb; omega
        simp only [hne, if_false, bd_s, Bool.false_eq_true, show decide (lbK vk L a.By < k) = false from decide_eq_false (by omega), Bool.not_false, if_true, hng, decide_false]
        rw [if_pos (by simp only [List.length_cons, List.length_nil]; omega), bd_s, wrap64 (by omega) (by omega)]
        refine .mk ⟨?_, fun _ => by omega⟩
        rw [show decide (lbK vk L a.By < k + 1) = false from decide_eq_false (by omega), show ((k + 1 : Nat) : Int) = (k : Int) + 1 by omega]
        unfold midV
        rw [if_pos (by omega), if_pos (by omega), List.take_add_one, List.getElem?_eq_getElem hk]; rfl
      · subst heq
        have hb := h2 _ hk (Nat.le_refl _)
        have hge : a.By ≤ L[lbK vk L a.By].By := hb
        by_cases he : L[lbK vk L a.By].By = a.By
        · have hh : hasK vk L a.By = true := (hs.has a.By).2 ⟨hk, he⟩
          by_cases hv : a.View ≤ L[lbK vk L a.By].View
          · have ho : oldV L a = true := (oldV_at hs).2 ⟨hk, he, hv⟩
            simp only [he, if_true, hv, decide_true, bd_s]
            exact .mk (.inl ⟨ho, rfl⟩)
          · have ho : oldV L a = false := by
              rw [Bool.eq_false_iff]; intro ho
              obtain ⟨_, _, h3⟩ := (oldV_at hs).1 ho
              exact hv h3
            simp only [he, if_true, hv, decide_false, bd_s, Bool.false_eq_true, if_false, show decide (lbK vk L a.By < lbK vk L a.By) = false from decide_eq_false (by omega), Bool.not_false, Int.le_refl, decide_true, Bool.not_true]
            rw [if_pos (by simp only [List.length_cons, List.length_nil]; omega), bd_s, wrap64 (by omega) (by omega)]
            refine .mk ⟨?_, fun h => by rw [ho] at h; cases h⟩
            rw [show decide (lbK vk L a.By < lbK vk L a.By + 1) = true from decide_eq_true (by omega), show ((lbK vk L a.By + 1 : Nat) : Int) = (lbK vk L a.By : Int) + 1 by omega]
            unfold midV
            rw [if_pos (Nat.le_refl _), if_neg (by omega), hh]
            simp only [if_true]
            rw [List.drop_eq_nil_of_le (by rw [List.length_take]; omega), List.append_nil]
        · have hh : hasK vk L a.By = false := by
            rw [Bool.eq_false_iff]; intro hh
            obtain ⟨_, g⟩ := (hs.has a.By).1 hh
            exact he g
          have ho : oldV L a = false := by
            rw [Bool.eq_false_iff]; intro ho
            obtain ⟨_, g, _⟩ := (oldV_at hs).1 ho
            exact he g
          simp only [he, if_false, bd_s, Bool.false_eq_true, show decide (lbK vk L a.By < lbK vk L a.By) = false from decide_eq_false (by omega), Bool.not_false, if_true, hge, decide_true, decide_false]
          rw [if_pos (by simp only [List.length_cons, List.length_nil]; omega)]
          simp only [bd_s]
          rw [if_pos (by simp only [List.length_append, List.length_cons, List.length_nil]; omega), bd_s, wrap64 (by omega) (by omega)]
          refine .mk ⟨?_, fun h => by rw [ho] at h; cases h⟩
          rw [show decide (lbK vk L a.By < lbK vk L a.By + 1) = true from decide_eq_true (by omega), show ((lbK vk L a.By + 1 : Nat) : Int) = (lbK vk L a.By : Int) + 1 by omega]
          unfold midV
          rw [if_pos (Nat.le_refl _), if_neg (by omega), hh]
          simp only [Bool.false_eq_true, if_false, Nat.add_zero]
          rw [List.take_add_one, List.getElem?_eq_getElem hk, List.drop_append]
          have : (L.take (lbK vk L a.By)).length = lbK vk L a.By := by rw [List.length_take]; omega
          rw [List.drop_eq_nil_of_le (by omega), this, Nat.sub_self]
          simp
      · have ho : oldV L a = false := by
          rw [Bool.eq_false_iff]; intro ho
          have := hp ho; omega
        have hb := hs.lt hk hgt
        have hlb := h2 (lbK vk L a.By) (by omega) (Nat.le_refl _)
        have hne : ¬ L[k].By = a.By := by simp only [vk] at hb hlb; omega
        simp only [hne, if_false, bd_s, Bool.false_eq_true, show decide (lbK vk L a.By < k) = true from decide_eq_true hgt, Bool.not_true, Bool.not_false, if_true, decide_false]
        rw [if_pos (by simp only [List.length_cons, List.length_nil]; omega), bd_s, wrap64 (by omega) (by omega)]
        refine .mk ⟨?_, fun h => by rw [ho] at h; cases h⟩
        rw [show decide (lbK vk L a.By < k + 1) = true from decide_eq_true (by omega), show ((k + 1 : Nat) : Int) = (k : Int) + 1 by omega]
        unfold midV
        rw [if_neg (show ¬ k ≤ lbK vk L a.By by omega), if_neg (show ¬ k + 1 ≤ lbK vk L a.By by omega), List.take_add_one, List.getElem?_eq_getElem hk, List.drop_append_of_le_length]
        · simp
        · rw [List.length_take]; split <;> omega
    · unfold tR18AddL1
      simp only [show ¬ ((L.length : Int) < (L.length : Int)) by omega, if_false]
      by_cases ho : oldV L a = true
      · obtain ⟨g1, g2, _⟩ := (oldV_at hs).1 ho
        have := hp ho
        omega
      · exact .mk (.inr ⟨by simpa using ho, rfl⟩)
  obtain ⟨r, e, hr⟩ := hloop
  rw [e]
  rcases hr with ⟨ho, rfl⟩ | ⟨ho, rfl⟩
  · simp only [bd_s, ho, Bool.true_eq_false, and_false, if_false]
  · simp only [bd_s, ho, and_self, if_true]
    have hml := midV_len (L := L) (a := a) (k := L.length) (Nat.le_refl _)
    by_cases hlt : lbK vk L a.By < L.length
    · simp only [hlt, decide_true, Bool.not_true, Bool.false_eq_true, if_false, bd_s]
      unfold midV putV
      rw [if_neg (by omega), List.take_length]
    · have hq : lbK vk L a.By = L.length := by omega
      have hh : hasK vk L a.By = false := by
        rw [Bool.eq_false_iff]; intro hh
        obtain ⟨g, _⟩ := (hs.has a.By).1 hh
        omega
      simp only [hlt, decide_false, Bool.not_false, if_true]
      rw [if_pos (by simp only [List.length_cons, List.length_nil]; omega)]
      simp only [bd_s]
      unfold midV putV
      rw [hh, hq, if_pos (Nat.le_refl _)]
      simp
/-! ### counting -/
def hitV (v : Int) (s : List UInt8) (x : ApiAccept) : Bool := decide (x.View = v) && decide (x.Value = s)
def cntV (L : List ApiAccept) (v : Int) (s : List UInt8) : Nat := (L.filter (hitV v s)).length
theorem filter_take_succ {α : Type} {p : α → Bool} {L : List α} {k : Nat} (hk : k < L.length) : (L.take (k + 1)).filter p = (L.take k).filter p ++ if p L[k] then [L[k]] else [] := by
  rw [List.take_add_one, List.getElem?_eq_getElem hk, List.filter_append]
  congr 1
  simp only [Option.toList_some, List.filter_cons, List.filter_nil]
theorem filter_take_le {α : Type} {p : α → Bool} {L : List α} {k : Nat} : ((L.take k).filter p).length ≤ L.length := Nat.le_trans (List.length_filter_le _ _) (by rw [List.length_take]; omega)
theorem voters_eq (L : List ApiAccept) (v : Int) (s : List UInt8) (hl : L.length < 2 ^ 32) : tTallyVoters ⟨L⟩ v s = some (L.filter (hitV v s)) := by
  unfold tTallyVoters
  have hloop : Loop (tTallyVotersL1 ⟨L⟩ v s) (([] : List ApiAccept), 0) = some (L.filter (hitV v s)) := by
    refine Gives.eq (Gives.count (fun k => ((L.take k).filter (hitV v s), (k : Int))) L.length (fun _ => True) (by simp) trivial (fun k hk _ => ?_) (fun _ => ?_))
    · unfold tTallyVotersL1
      simp only [show ((k : Int) < (L.length : Int)) by omega, if_true, ix_nat hk]
      have hb : (if L[k].View = v then some (decide (L[k].Value = s)) else some false : Option Bool) = some (hitV v s L[k]) := by unfold hitV; split <;> simp [*]
      rw [hb]
      simp only [bd_s]
      rw [wrap64 (by omega) (by omega), filter_take_succ hk, show ((k + 1 : Nat) : Int) = (k : Int) + 1 by omega]
      have hle := filter_take_le (p := hitV v s) (L := L) (k := k)
      cases hitV v s L[k] with
      | true => simp only [if_true]; rw [if_pos (by simp only [List.length_cons, List.length_nil]; omega)]; exact .mk ⟨rfl, trivial⟩
      | false => simp only [Bool.false_eq_true, if_false, bd_s, List.append_nil]; exact .mk ⟨rfl, trivial⟩
    · unfold tTallyVotersL1
      simp only [show ¬ ((L.length : Int) < (L.length : Int)) by omega, if_false, List.take_length]
      exact .mk rfl
  rw [hloop]; rfl
theorem count_eq (L : List ApiAccept) (v : Int) (s : List UInt8) (hl : L.length < 2 ^ 32) : tTallyCount ⟨L⟩ v s = some (cntV L v s : Int) := by
  unfold tTallyCount
  rw [voters_eq L v s hl]; rfl
theorem r18voters_eq (L : List ApiAccept) (v : Int) (s : List UInt8) (hl : L.length < 2 ^ 32) : tR18Voters ⟨L⟩ v s = some (L.filter (hitV v s)) := by
  unfold tR18Voters
  have hloop : Loop (tR18VotersL1 ⟨L⟩ v s) (([] : List ApiAccept), 0) = some (L.filter (hitV v s)) := by
    refine Gives.eq (Gives.count (fun k => ((L.take k).filter (hitV v s), (k : Int))) L.length (fun _ => True) (by simp) trivial (fun k hk _ => ?_) (fun _ => ?_))
    · unfold tR18VotersL1
      simp only [show ((k : Int) < (L.length : Int)) by omega, if_true, ix_nat hk]
      have hb : (if L[k].View = v then some (decide (L[k].Value = s)) else some false : Option Bool) = some (hitV v s L[k]) := by unfold hitV; split <;> simp [*]
      rw [hb]
      simp only [bd_s]
      rw [wrap64 (by omega) (by omega), filter_take_succ hk, show ((k + 1 : Nat) : Int) = (k : Int) + 1 by omega]
      have hle := filter_take_le (p := hitV v s) (L := L) (k := k)
      cases hitV v s L[k] with
      | true => simp only [if_true]; rw [if_pos (by simp only [List.length_cons, List.length_nil]; omega)]; exact .mk ⟨rfl, trivial⟩
      | false => simp only [Bool.false_eq_true, if_false, bd_s, List.append_nil]; exact .mk ⟨rfl, trivial⟩
    · unfold tR18VotersL1
      simp only [show ¬ ((L.length : Int) < (L.length : Int)) by omega, if_false, List.take_length]
      exact .mk rfl
  rw [hloop]; rfl
theorem r18count_eq (L : List ApiAccept) (v : Int) (s : List UInt8) (hl : L.length < 2 ^ 32) : tR18Count ⟨L⟩ v s = some (cntV L v s : Int) := by
  unfold tR18Count
  rw [r18voters_eq L v s hl]; rfl
/-! ### the best -/
/-- are enough like it -/
def goodV (L : List ApiAccept) (need : Int) (y : ApiAccept) : Bool := decide (1 ≤ need) && decide (need ≤ (cntV L y.View y.Value : Int))
def stepV (L : List ApiAccept) (need : Int) (o : Option ApiAccept) (y : ApiAccept) : Option ApiAccept :=
  if goodV L need y && (match o with | none => true | some z => decide (z.View < y.View)) then some y else o
def bestV (L : List ApiAccept) (need : Int) : Option ApiAccept := L.foldl (stepV L need) none
theorem foldl_take_succ {α β : Type} {f : β → α → β} {b : β} {L : List α} {k : Nat} (hk : k < L.length) : (L.take (k + 1)).foldl f b = f ((L.take k).foldl f b) L[k] := by
  rw [List.take_add_one, List.getElem?_eq_getElem hk, List.foldl_append]; rfl
def keyV (x : ApiAccept) : List MV := [.i .i64 x.View, .s x.Value]
theorem keyV_eq (v w : Int) (s t : List UInt8) : mvsEq [.i .i64 v, .s s] [.i .i64 w, .s t] = (decide (v = w) && decide (s = t)) := by simp [mvsEq, mvEq]
theorem best_map (L : List ApiAccept) (hl : L.length < 2 ^ 32) : Gives (Loop (tTallyBestL1 ⟨L⟩) (([] : List MV), 0)) fun es => ∀ v s, mgetI es [.i .i64 v, .s s] = (cntV L v s : Int) := by
  refine Gives.loop (fun st => ∃ k : Nat, k ≤ L.length ∧ st.2 = (k : Int) ∧ ∀ v s, mgetI st.1 [.i .i64 v, .s s] = (((L.take k).filter (hitV v s)).length : Int)) (fun st => ((L.length : Int) - st.2).toNat) ⟨0, Nat.zero_le _, rfl, fun v s => by simp [mgetI]⟩ ?_
  rintro ⟨es, i⟩ ⟨k, hk, rfl, hm⟩
  simp only at hm
  unfold tTallyBestL1
  by_cases hlt : k < L.length
  · have hle := midx_le es (keyV L[k])
    simp only [show ((k : Int) < (L.length : Int)) by omega, if_true, ix_nat hlt]
    have hc : (0 : Int) ≤ ((midx es ([.i .i64 L[k].View, .s L[k].Value] : List MV) : Nat) : Int) ∧ Int.toNat ((midx es ([.i .i64 L[k].View, .s L[k].Value] : List MV) : Nat) : Int) < (ment es ([.i .i64 L[k].View, .s L[k].Value] : List MV) (.i .i64 0)).length := by
      refine ⟨by omega, ?_⟩
      unfold ment
      unfold keyV at hle
      rw [nbeq, Int.toNat_natCast]
      by_cases h : midx es [.i .i64 L[k].View, .s L[k].Value] = es.length
      · simp only [h, decide_true, cond_true, List.length_append, List.length_cons, List.length_nil]; omega
      · simp only [h, decide_false, cond_false]; omega
    rw [if_pos hc]
    simp only [Int.toNat_natCast]
    refine .mk ⟨⟨k + 1, by omega, ?_, fun v s => ?_⟩, ?_⟩
    · simp only; rw [wrap64 (by omega) (by omega)]; omega
    · simp only
      have hcnt := hm L[k].View L[k].Value
      have hle2 := filter_take_le (p := hitV L[k].View L[k].Value) (L := L) (k := k)
      rw [hcnt, wrap64 (by omega) (by omega)]
      show mgetI (mput es _ (.i .i64 0) _) _ = _
      rw [filter_take_succ hlt, mgetI_eq]
      by_cases he : L[k].View = v ∧ L[k].Value = s
      · obtain ⟨rfl, rfl⟩ := he
        rw [mget_put_same (by simp [mvsEq, mvEq])]
        simp [hitV, asI]
      · have hf : (decide (L[k].View = v) && decide (L[k].Value = s)) = false := by rw [← Bool.decide_and]; exact decide_eq_false he
        rw [mget_put_other (by rw [keyV_eq]; exact hf), ← mgetI_eq, hm]
        simp only [hitV, hf, Bool.false_eq_true, if_false, List.append_nil]
    · simp only; rw [wrap64 (by omega) (by omega)]; omega
  · simp only [show ¬ ((k : Int) < (L.length : Int)) by omega, if_false]
    refine .mk fun v s => ?_
    rw [hm, List.take_of_length_le (by omega)]; rfl
/-- the best as it is told -/
def resV (o : Option ApiAccept) : Int × List UInt8 × Bool := match o with | some z => (z.View, z.Value, true) | none => (0, [], false)
@[simp] theorem resV_some (z : ApiAccept) : resV (some z) = (z.View, z.Value, true) := rfl
@[simp] theorem resV_none : resV none = (0, [], false) := rfl
theorem tallybest_eq {L : List ApiAccept} (need : Int) (hv : ∀ e ∈ L, 0 ≤ e.View) (hl : L.length < 2 ^ 32) : tTallyBest ⟨L⟩ need = some (resV (bestV L need)) := by
  unfold tTallyBest
  obtain ⟨es, e1, hes⟩ := best_map L hl
  rw [e1]
  simp only [bd_s]
  have hloop : Loop (tTallyBestL2 ⟨L⟩ need es) ((-1), ([] : List UInt8), false, 0) = some (match bestV L need with | some z => (z.View, z.Value, true) | none => (-1, [], false)) := by
    refine Gives.eq (Gives.count (fun k => match (L.take k).foldl (stepV L need) none with | some z => (z.View, z.Value, true, (k : Int)) | none => (-1, [], false, (k : Int))) L.length (fun _ => True) (by simp) trivial (fun k hk _ => ?_) (fun _ => ?_))
    · have hvk := hv _ (List.getElem_mem hk)
      rw [foldl_take_succ hk]
      unfold tTallyBestL2
      have hgood : ∀ b : Bool, (if (1 : Int) ≤ need then if need ≤ (cntV L L[k].View L[k].Value : Int) then some b else some false else some false : Option Bool) = some (goodV L need L[k] && b) := by
        intro b; unfold goodV
        by_cases g1 : (1 : Int) ≤ need <;> by_cases g2 : need ≤ (cntV L L[k].View L[k].Value : Int) <;> simp [g1, g2]
      cases hz : (L.take k).foldl (stepV L need) none with
      | none =>
        simp only [show ((k : Int) < (L.length : Int)) by omega, if_true, ix_nat hk, hes, hgood, bd_s]
        rw [wrap64 (by omega) (by omega)]
        unfold stepV
        simp only [show decide ((-1 : Int) < L[k].View) = true from decide_eq_true (by omega), Bool.and_true]
        cases goodV L need L[k] <;> simp only [Bool.false_eq_true, if_true, if_false, bd_s] <;> exact .mk ⟨by simp, trivial⟩
      | some z =>
        simp only [show ((k : Int) < (L.length : Int)) by omega, if_true, ix_nat hk, hes, hgood, bd_s]
        rw [wrap64 (by omega) (by omega)]
        unfold stepV
        cases goodV L need L[k] && decide (z.View < L[k].View) <;> simp only [Bool.false_eq_true, if_true, if_false, bd_s] <;> exact .mk ⟨by simp, trivial⟩
    · rw [List.take_length]
      unfold tTallyBestL2
      show Gives _ _
      unfold bestV
      cases List.foldl (stepV L need) none L <;> simp only [show ¬ ((L.length : Int) < (L.length : Int)) by omega, if_false] <;> exact .mk rfl
  rw [hloop]
  cases bestV L need <;> simp
def atB (L : List ApiAccept) (o : Option ApiAccept) (w : Int) : Prop := match o with | none => w = -1 | some z => ∃ j : Nat, w = (j : Int) ∧ L[j]? = some z
theorem r18best_eq (L : List ApiAccept) (need : Int) (hl : L.length < 2 ^ 32) : tR18Best ⟨L⟩ need = some (resV (bestV L need)) := by
  unfold tR18Best
  have hloop : Gives (Loop (tR18BestL1 ⟨L⟩ need) ((-1), 0)) fun w => match bestV L need with | none => w < 0 | some z => ∃ j : Nat, w = (j : Int) ∧ L[j]? = some z := by
    by_cases hn : 1 ≤ need
    · refine Gives.loop (fun st => ∃ k : Nat, k ≤ L.length ∧ st.2 = (k : Int) ∧ atB L ((L.take k).foldl (stepV L need) none) st.1) (fun st => ((L.length : Int) - st.2).toNat) (show ∃ k : Nat, k ≤ L.length ∧ ((-1 : Int), (0 : Int)).2 = (k : Int) ∧ atB L ((L.take k).foldl (stepV L need) none) ((-1 : Int), (0 : Int)).1 from ⟨0, Nat.zero_le _, rfl, by simp [atB]⟩) ?_
      rintro ⟨w, i⟩ ⟨k, hk, rfl, hm⟩
      simp only at hm
      unfold tR18BestL1
      by_cases hlt : k < L.length
      · simp only [show ((k : Int) < (L.length : Int)) by omega, if_true, hn, decide_true, bd_s, ix_nat hlt, r18count_eq L _ _ hl]
        have hstep := foldl_take_succ (f := stepV L need) (b := none) hlt
        have hw : IntKind.wrap .i64 ((k : Int) + 1) = ((k + 1 : Nat) : Int) := by rw [wrap64 (by omega) (by omega)]; omega
        cases hz : (L.take k).foldl (stepV L need) none with
        | none =>
          rw [hz] at hm hstep
          have hm : w = -1 := hm
          subst hm
          simp only [show ((-1 : Int) < 0) by decide, if_true, hw]
          by_cases hg : need ≤ (cntV L L[k].View L[k].Value : Int)
          · simp only [hg, if_true, bd_s]
            refine .mk ⟨⟨k + 1, by omega, rfl, ?_⟩, by simp only; omega⟩
            rw [hstep]
            simp only [stepV, goodV, hn, hg, decide_true, Bool.and_self, if_true]
            exact ⟨k, rfl, List.getElem?_eq_getElem hlt⟩
          · simp only [hg, if_false, bd_s, Bool.false_eq_true]
            refine .mk ⟨⟨k + 1, by omega, rfl, ?_⟩, by simp only; omega⟩
            rw [hstep]
            simp only [stepV, goodV, hn, hg, decide_false, Bool.and_false, Bool.false_and, Bool.false_eq_true, if_false]
            rfl
        | some z =>
          rw [hz] at hm hstep
          obtain ⟨j, rfl, hj⟩ := hm
          obtain ⟨hjl, hj2⟩ := List.getElem?_eq_some_iff.1 hj
          simp only [show ¬ ((j : Int) < 0) by omega, if_false, hw, ix_nat hjl, hj2]
          by_cases hg : need ≤ (cntV L L[k].View L[k].Value : Int)
          · simp only [hg, if_true, bd_s]
            by_cases hvw : z.View < L[k].View
            · simp only [hvw, decide_true, if_true, bd_s]
              refine .mk ⟨⟨k + 1, by omega, rfl, ?_⟩, by simp only; omega⟩
              rw [hstep]
              simp only [stepV, goodV, hn, hg, hvw, decide_true, Bool.and_self, if_true]
              exact ⟨k, rfl, List.getElem?_eq_getElem hlt⟩
            · simp only [hvw, decide_false, if_false, bd_s, Bool.false_eq_true]
              refine .mk ⟨⟨k + 1, by omega, rfl, ?_⟩, by simp only; omega⟩
              rw [hstep]
              simp only [stepV, hvw, decide_false, Bool.and_false, Bool.false_eq_true, if_false]
              exact ⟨j, rfl, hj⟩
          · simp only [hg, if_false, bd_s, Bool.false_eq_true]
            refine .mk ⟨⟨k + 1, by omega, rfl, ?_⟩, by simp only; omega⟩
            rw [hstep]
            simp only [stepV, goodV, hn, hg, decide_false, Bool.and_false, Bool.false_and, Bool.false_eq_true, if_false]
            exact ⟨j, rfl, hj⟩
      · simp only [show ¬ ((k : Int) < (L.length : Int)) by omega, if_false, bd_s, Bool.false_eq_true]
        rw [List.take_of_length_le (by omega)] at hm
        refine .mk ?_
        show match bestV L need with | none => w < 0 | some z => _
        unfold bestV
        split
        · rename_i hz; rw [hz] at hm; have hm : w = -1 := hm; omega
        · rename_i z hz; rw [hz] at hm; exact hm
    · have hb : bestV L need = none := by
        have : ∀ l : List ApiAccept, l.foldl (stepV L need) none = none := by
          intro l
          induction l with
          | nil => rfl
          | cons x l ih => simp only [List.foldl_cons]; rw [show stepV L need none x = none by simp [stepV, goodV, hn]]; exact ih
        exact this L
      rw [hb]
      refine ⟨-1, ?_, by show (-1 : Int) < 0; decide⟩
      refine Loop_of_iter (n := 1) ?_
      simp only [iter, tR18BestL1]
      by_cases h0 : (0 : Int) < (L.length : Int) <;> simp [h0, hn]
  obtain ⟨w, e, hw⟩ := hloop
  rw [e]
  simp only [bd_s]
  cases hz : bestV L need with
  | none => rw [hz] at hw; simp only at hw; simp [hw]
  | some z =>
    rw [hz] at hw
    obtain ⟨j, rfl, hj⟩ := hw
    obtain ⟨hjl, hj2⟩ := List.getElem?_eq_some_iff.1 hj
    simp only [show ¬ ((j : Int) < 0) by omega, if_false, ix_nat hjl, hj2, resV_some]
/-- what the best is -/
theorem bestV_spec (L : List ApiAccept) (need : Int) : match bestV L need with | none => ∀ y ∈ L, goodV L need y = false | some z => z ∈ L ∧ goodV L need z = true ∧ ∀ y ∈ L, goodV L need y = true → y.View ≤ z.View := by
  have : ∀ l : List ApiAccept, (∀ x ∈ l, x ∈ L) → match l.foldl (stepV L need) none with | none => ∀ y ∈ l, goodV L need y = false | some z => z ∈ L ∧ goodV L need z = true ∧ ∀ y ∈ l, goodV L need y = true → y.View ≤ z.View := by
    intro l
    generalize hn : l.length = n
    induction n generalizing l with
    | zero => intro h; have := List.eq_nil_of_length_eq_zero hn; subst this; intro y hy; simp at hy
    | succ n ih =>
      intro h
      obtain ⟨l0, y0, rfl⟩ : ∃ l0 y0, l = l0 ++ [y0] := ⟨l.dropLast, l.getLast (by intro e; subst e; simp at hn), (List.dropLast_concat_getLast _).symm⟩
      have ih := ih l0 (by simp at hn; omega) (fun x hx => h x (by simp [hx]))
      rw [List.foldl_append]
      simp only [List.foldl_cons, List.foldl_nil]
      cases hz : l0.foldl (stepV L need) none with
      | none =>
        rw [hz] at ih
        simp only at ih
        cases hg : goodV L need y0 with
        | true =>
          rw [show stepV L need none y0 = some y0 by simp [stepV, hg]]
          refine ⟨h y0 (by simp), hg, fun y hy hgy => ?_⟩
          rcases List.mem_append.1 hy with hy | hy
          · rw [ih y hy] at hgy; cases hgy
          · rw [List.mem_singleton.1 hy]; exact Int.le_refl _
        | false =>
          rw [show stepV L need none y0 = none by simp [stepV, hg]]
          intro y hy
          rcases List.mem_append.1 hy with hy | hy
          · exact ih y hy
          · rw [List.mem_singleton.1 hy]; exact hg
      | some z =>
        rw [hz] at ih
        obtain ⟨i1, i2, i3⟩ := ih
        cases hg : goodV L need y0 && decide (z.View < y0.View) with
        | true =>
          rw [show stepV L need (some z) y0 = some y0 by simp only [stepV, hg, if_true]]
          simp only [Bool.and_eq_true, decide_eq_true_eq] at hg
          refine ⟨h y0 (by simp), hg.1, fun y hy hgy => ?_⟩
          rcases List.mem_append.1 hy with hy | hy
          · have := i3 y hy hgy; omega
          · rw [List.mem_singleton.1 hy]; exact Int.le_refl _
        | false =>
          rw [show stepV L need (some z) y0 = some z by simp only [stepV, hg, Bool.false_eq_true, if_false]]
          refine ⟨i1, i2, fun y hy hgy => ?_⟩
          rcases List.mem_append.1 hy with hy | hy
          · exact i3 y hy hgy
          · have he := List.mem_singleton.1 hy
            subst he
            rw [hgy, Bool.true_and] at hg
            have := of_decide_eq_false hg
            omega
  exact this L fun x hx => hx
end Dn.S
