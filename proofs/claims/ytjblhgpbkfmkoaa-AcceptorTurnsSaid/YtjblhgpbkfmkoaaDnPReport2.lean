import Derived.Test.YtjblhgpbkfmkoaaDnPReport
import Derived.Test.YtjblhgpbkfmkoaaDnD
/-
  Certificates: what binds a leader. Conditions: none.
-/
open Go Dn
set_option linter.unusedVariables false
set_option linter.unusedSimpArgs false
namespace Dn.S
/-- the newest proof's view and value -/
def bstep (b : Int × List UInt8) (r : ApiReport) : Int × List UInt8 := if (ofP r.Proof).2.2 = true ∧ b.1 < (ofP r.Proof).1 then ((ofP r.Proof).1, (ofP r.Proof).2.1) else b
def bestR (L : List ApiReport) : Int × List UInt8 := L.foldl bstep (-1, [])
theorem bstep_ge {b : Int × List UInt8} {r : ApiReport} (h : -1 ≤ b.1) : -1 ≤ (bstep b r).1 := by
  unfold bstep; split
  · rename_i h2; simp only; omega
  · exact h
theorem best_ge (L : List ApiReport) : ∀ b : Int × List UInt8, -1 ≤ b.1 → -1 ≤ (L.foldl bstep b).1 := by
  induction L with
  | nil => intro b h; exact h
  | cons r L ih => intro b h; exact ih _ (bstep_ge h)
theorem bindsA (L : List ApiReport) (hl : L.length < 2 ^ 32) : Loop (tReportBindsL1 L) ((-1), ([] : List UInt8), 0) = some (bestR L) := by
  refine Gives.eq (Gives.count (fun k => (((L.take k).foldl bstep (-1, [])).1, ((L.take k).foldl bstep (-1, [])).2, (k : Int))) L.length (fun _ => True) (by simp) trivial (fun k hk _ => ?_) (fun _ => ?_))
  · unfold tReportBindsL1
    have hge := best_ge (L.take k) (-1, []) (by simp)
    simp only [show ((k : Int) < (L.length : Int)) by omega, if_true, ix_nat hk, proved_eq, bd_s]
    rw [wrap64 (by omega) (by omega), foldl_take_succ hk]
    generalize (L.take k).foldl bstep (-1, []) = b at hge
    unfold bstep
    by_cases c : b.1 < (ofP L[k].Proof).1
    · rw [if_pos c]
      have hpos : 0 < L[k].Proof.length := by
        refine Nat.pos_of_ne_zero fun h0 => ?_
        rw [List.eq_nil_of_length_eq_zero h0] at c
        simp only [ofP] at c; omega
      rw [ix_zero hpos]
      have h2 : (ofP L[k].Proof).2.2 = true ∧ (ofP L[k].Proof).2.1 = L[k].Proof[0].Value := by
        revert hpos
        cases L[k].Proof with
        | nil => intro h; simp at h
        | cons x y => intro h; exact ⟨rfl, rfl⟩
      rw [if_pos ⟨h2.1, c⟩]
      simp only [bd_s, h2.2]
      exact .mk ⟨rfl, trivial⟩
    · rw [if_neg c, if_neg (fun h => c h.2)]
      simp only [bd_s]
      exact .mk ⟨rfl, trivial⟩
  · unfold tReportBindsL1
    simp only [show ¬ ((L.length : Int) < (L.length : Int)) by omega, if_false, List.take_length]
    exact .mk rfl
theorem bindsA20 (L : List ApiReport) (hl : L.length < 2 ^ 32) : Loop (tR20BindsL1 L) ((-1), ([] : List UInt8), 0) = some (bestR L) := by
  refine Gives.eq (Gives.count (fun k => (((L.take k).foldl bstep (-1, [])).1, ((L.take k).foldl bstep (-1, [])).2, (k : Int))) L.length (fun _ => True) (by simp) trivial (fun k hk _ => ?_) (fun _ => ?_))
  · unfold tR20BindsL1
    simp only [show ((k : Int) < (L.length : Int)) by omega, if_true, ix_nat hk, r19Of_eq, bd_s]
    rw [wrap64 (by omega) (by omega), foldl_take_succ hk]
    generalize (L.take k).foldl bstep (-1, []) = b
    unfold bstep
    cases h2 : (ofP L[k].Proof).2.2 with
    | false =>
      simp only [Bool.false_eq_true, if_false, bd_s, false_and]
      exact .mk ⟨rfl, trivial⟩
    | true =>
      by_cases c : b.1 < (ofP L[k].Proof).1
      · simp only [if_true, c, decide_true, bd_s, true_and]; exact .mk ⟨rfl, trivial⟩
      · simp only [if_true, c, decide_false, bd_s, true_and, Bool.false_eq_true, if_false]; exact .mk ⟨rfl, trivial⟩
  · unfold tR20BindsL1
    simp only [show ¬ ((L.length : Int) < (L.length : Int)) by omega, if_false, List.take_length]
    exact .mk rfl
/-- reports of a value, beyond a view -/
def hitR (c : Int) (x : List UInt8) (r : ApiReport) : Bool := r.Has && (decide (c < r.View) && decide (r.Value = x))
def cntR (c : Int) (L : List ApiReport) (x : List UInt8) : Nat := (L.filter (hitR c x)).length
theorem cntR_two {c : Int} {x y : List UInt8} (h : x ≠ y) (L : List ApiReport) : cntR c L x + cntR c L y ≤ L.length := by
  unfold cntR
  induction L with
  | nil => simp
  | cons r L ih =>
    simp only [List.filter_cons, List.length_cons]
    have : ¬ (hitR c x r = true ∧ hitR c y r = true) := by
      rintro ⟨h1, h2⟩
      simp only [hitR, Bool.and_eq_true, decide_eq_true_eq] at h1 h2
      exact h (h1.2.2.symm.trans h2.2.2)
    cases h1 : hitR c x r <;> cases h2 : hitR c y r <;> simp [h1, h2] at this ⊢ <;> omega
/-- counted values, one more -/
def encC (p : List UInt8 × Int) : MV := .tup [.agg [.s p.1], .i .i64 p.2]
def upC : List (List UInt8 × Int) → List UInt8 → List (List UInt8 × Int)
  | [], x => [(x, 1)]
  | p :: r, x => if p.1 = x then (p.1, p.2 + 1) :: r else p :: upC r x
theorem upC_enc (E : List (List UInt8 × Int)) (x : List UInt8) (h : ∀ p ∈ E, 0 ≤ p.2 ∧ p.2 < 2 ^ 40) :
    mset (ment (E.map encC) [.s x] (.i .i64 0)) (midx (E.map encC) [.s x]) (.i .i64 (IntKind.wrap .i64 (mgetI (E.map encC) [.s x] + 1))) = (upC E x).map encC := by
  induction E with
  | nil =>
    simp only [List.map_nil, midx, ment, List.length_nil, nbeq, decide_true, cond_true, List.nil_append, mgetI, List.getElem?_nil, upC, List.map_cons, encC]
    rw [wrap64 (by omega) (by omega)]
    rfl
  | cons p E ih =>
    have ih := ih fun q hq => h q (List.mem_cons_of_mem _ hq)
    have hk : mkey (encC p) = [.s p.1] := rfl
    have he : mvsEq (mkey (encC p)) [.s x] = decide (p.1 = x) := by rw [hk]; simp [mvsEq, mvEq]
    simp only [List.map_cons, upC]
    by_cases hx : p.1 = x
    · have hb := h p (by simp)
      have hm : midx (encC p :: E.map encC) [.s x] = 0 := by simp only [midx, he, hx, decide_true, cond_true]
      have hn : ment (encC p :: E.map encC) [.s x] (.i .i64 0) = encC p :: E.map encC := by
        unfold ment; rw [hm, nbeq]; simp
      have hg : mgetI (encC p :: E.map encC) [.s x] = p.2 := by unfold mgetI; rw [hm]; rfl
      rw [hn, hm, hg, wrap64 (by omega) (by omega), if_pos hx]
      rfl
    · have hm : midx (encC p :: E.map encC) [.s x] = midx (E.map encC) [.s x] + 1 := by simp only [midx, he, hx, decide_false, cond_false]
      have hn : ment (encC p :: E.map encC) [.s x] (.i .i64 0) = encC p :: ment (E.map encC) [.s x] (.i .i64 0) := by
        unfold ment; rw [hm, nbeq, nbeq, List.length_cons]
        by_cases hq : midx (E.map encC) [.s x] = (E.map encC).length
        · simp [hq]
        · have hq' : ¬ (midx (E.map encC) [.s x] + 1 = (E.map encC).length + 1) := by omega
          simp only [hq, hq', decide_false, cond_false]
      have hg : mgetI (encC p :: E.map encC) [.s x] = mgetI (E.map encC) [.s x] := by unfold mgetI; rw [hm, List.getElem?_cons_succ]
      rw [hn, hm, hg, if_neg hx, List.map_cons, ← ih]
      unfold mset
      rw [List.getElem?_cons_succ]
      cases (ment (E.map encC) [.s x] (.i .i64 0))[midx (E.map encC) [.s x]]? <;> rfl
theorem upC_keys {E : List (List UInt8 × Int)} {x : List UInt8} : (upC E x).map (·.1) = if x ∈ E.map (·.1) then E.map (·.1) else E.map (·.1) ++ [x] := by
  induction E with
  | nil => simp [upC]
  | cons p E ih =>
    simp only [upC]
    by_cases hx : p.1 = x
    · rw [if_pos hx]; simp [hx]
    · rw [if_neg hx, List.map_cons, ih]
      have : ¬ (x = p.1) := fun h => hx h.symm
      by_cases hm : x ∈ E.map (·.1)
      · rw [if_pos hm, if_pos (by simp only [List.map_cons, List.mem_cons]; exact .inr hm), List.map_cons]
      · rw [if_neg hm, if_neg (by simp only [List.map_cons, List.mem_cons]; rintro (h | h); exact this h; exact hm h)]; rfl
theorem upC_nodup {E : List (List UInt8 × Int)} {x : List UInt8} (h : (E.map (·.1)).Nodup) : ((upC E x).map (·.1)).Nodup := by
  rw [upC_keys]
  split
  · exact h
  · rename_i hm
    rw [List.nodup_append]
    refine ⟨h, by simp, fun a ha b hb hab => ?_⟩
    simp only [List.mem_singleton] at hb
    subst hb; subst hab; exact hm ha
theorem upC_mem {E : List (List UInt8 × Int)} {x y : List UInt8} {n : Int} (h : (E.map (·.1)).Nodup) : (y, n) ∈ upC E x ↔ (y ≠ x ∧ (y, n) ∈ E) ∨ (y = x ∧ ((x, n - 1) ∈ E ∨ (n = 1 ∧ x ∉ E.map (·.1)))) := by
  induction E with
  | nil => simp [upC]
  | cons p E ih =>
    obtain ⟨h1, h2⟩ := List.nodup_cons.1 h
    have ih := ih h2
    obtain ⟨k, m⟩ := p
    simp only [upC]
    simp only at h1
    by_cases hx : k = x
    · subst hx
      rw [if_pos rfl]
      by_cases hy : y = k
      · subst hy
        have hne : ∀ n, (y, n) ∉ E := fun n hm => h1 (List.mem_map.2 ⟨_, hm, rfl⟩)
        simp only [List.mem_cons, Prod.mk.injEq, true_and, hne, or_false, ne_eq, not_true_eq_false, false_and, false_or, List.map_cons, true_or, not_true_eq_false, and_false]
        omega
      · simp [hy]
    · rw [if_neg hx]
      simp only [List.mem_cons, ih, Prod.mk.injEq, List.map_cons]
      by_cases hy : y = x
      · subst hy
        simp [Ne.symm hx, fun h : y = k => hx h.symm]
      · simp only [hy, false_and, or_false, ne_eq, not_false_eq_true, true_and]
/-- what is counted is just what there is -/
structure CntC (c : Int) (L : List ApiReport) (E : List (List UInt8 × Int)) : Prop where
  nodup : (E.map (·.1)).Nodup
  mem : ∀ x n, (x, n) ∈ E ↔ 0 < cntR c L x ∧ n = (cntR c L x : Int)
theorem CntC.nil (c : Int) : CntC c [] [] := ⟨by simp, by simp [cntR]⟩
theorem CntC.skip {c : Int} {L : List ApiReport} {E : List (List UInt8 × Int)} {r : ApiReport} (h : CntC c L E) (hr : (r.Has && decide (c < r.View)) = false) : CntC c (L ++ [r]) E := by
  refine ⟨h.nodup, fun x n => ?_⟩
  have : cntR c (L ++ [r]) x = cntR c L x := by
    unfold cntR
    rw [List.filter_append]
    have : hitR c x r = false := by unfold hitR; rw [← Bool.and_assoc, hr]; rfl
    simp [this]
  rw [this]; exact h.mem x n
theorem CntC.add {c : Int} {L : List ApiReport} {E : List (List UInt8 × Int)} {r : ApiReport} (h : CntC c L E) (hr : (r.Has && decide (c < r.View)) = true) : CntC c (L ++ [r]) (upC E r.Value) := by
  refine ⟨upC_nodup h.nodup, fun x n => ?_⟩
  rw [upC_mem h.nodup]
  have hc : cntR c (L ++ [r]) x = cntR c L x + if r.Value = x then 1 else 0 := by
    unfold cntR
    rw [List.filter_append]
    have : hitR c x r = decide (r.Value = x) := by unfold hitR; rw [← Bool.and_assoc, hr]; rfl
    by_cases hx : r.Value = x <;> simp [this, hx]
  rw [hc]
  by_cases hx : x = r.Value
  · subst hx
    simp only [if_true, ne_eq, not_true_eq_false, false_and, false_or, true_and, h.mem]
    have hk : r.Value ∉ E.map (·.1) ↔ cntR c L r.Value = 0 := by
      constructor
      · intro hm
        refine Nat.eq_zero_of_not_pos fun hp => hm ?_
        exact List.mem_map.2 ⟨_, (h.mem _ _).2 ⟨hp, rfl⟩, rfl⟩
      · intro h0 hm
        obtain ⟨p, hp, he⟩ := List.mem_map.1 hm
        have := ((h.mem p.1 p.2).1 hp).1
        rw [he] at this; omega
    rw [hk]
    constructor
    · rintro (⟨h1, h2⟩ | ⟨h1, h2⟩)
      · exact ⟨by omega, by omega⟩
      · exact ⟨by omega, by omega⟩
    · rintro ⟨_, h2⟩
      by_cases h0 : cntR c L r.Value = 0
      · exact .inr ⟨by omega, h0⟩
      · exact .inl ⟨by omega, by omega⟩
  · simp only [hx, ne_eq, not_false_eq_true, true_and, false_and, or_false, if_neg (Ne.symm hx), Nat.add_zero]
    exact h.mem x n
theorem bindsB (L : List ApiReport) (w : Int × List UInt8) (hl : L.length < 2 ^ 32) : Gives (Loop (tReportBindsL2 L w) (([] : List MV), 0)) fun es => ∃ E, es = E.map encC ∧ CntC w.1 L E := by
  refine Gives.loop (fun st => ∃ (k : Nat) (E : List (List UInt8 × Int)), k ≤ L.length ∧ st = (E.map encC, (k : Int)) ∧ CntC w.1 (L.take k) E) (fun st => ((L.length : Int) - st.2).toNat) ⟨0, [], Nat.zero_le _, rfl, .nil _⟩ ?_
  rintro st ⟨k, E, hk, rfl, hE⟩
  unfold tReportBindsL2
  by_cases hlt : k < L.length
  · simp only [show ((k : Int) < (L.length : Int)) by omega, if_true, ix_nat hlt]
    rw [wrap64 (x := (k : Int) + 1) (by omega) (by omega)]
    have htk : L.take (k + 1) = L.take k ++ [L[k]] := by rw [List.take_add_one, List.getElem?_eq_getElem hlt]; rfl
    have hsome : (if L[k].Has then some (decide (w.1 < L[k].View)) else some false : Option Bool) = some (L[k].Has && decide (w.1 < L[k].View)) := by cases L[k].Has <;> rfl
    rw [hsome]
    simp only [bd_s]
    cases hh : L[k].Has && decide (w.1 < L[k].View) with
    | true =>
      rw [upC_enc E L[k].Value]
      · simp only [if_true, bd_s]
        refine .mk ⟨⟨k + 1, _, by omega, rfl, ?_⟩, by simp only; omega⟩
        rw [htk]; exact hE.add hh
      · intro p hp
        obtain ⟨h1, h2⟩ := (hE.mem p.1 p.2).1 hp
        have : cntR w.1 (L.take k) p.1 ≤ L.length := by unfold cntR; exact filter_take_le
        omega
    | false =>
      simp only [Bool.false_eq_true, if_false, bd_s]
      refine .mk ⟨⟨k + 1, E, by omega, rfl, ?_⟩, by simp only; omega⟩
      rw [htk]; exact hE.skip hh
  · simp only [show ¬ ((k : Int) < (L.length : Int)) by omega, if_false]
    refine .mk ⟨E, rfl, ?_⟩
    rw [List.take_of_length_le (by omega)] at hE
    exact hE
/-- what binds -/
def BindsR (V : Int) (L : List ApiReport) (res : List UInt8 × Bool) : Prop :=
  (∃ x, V ≤ (cntR (bestR L).1 L x : Int) ∧ res = (x, true)) ∨ ((∀ x, (cntR (bestR L).1 L x : Int) < V) ∧ res = ((bestR L).2, decide (0 ≤ (bestR L).1)))
theorem BindsR.uniq {V : Int} {L : List ApiReport} {r r' : List UInt8 × Bool} (hV : (L.length : Int) < 2 * V) (h : BindsR V L r) (h' : BindsR V L r') : r = r' := by
  rcases h with ⟨x, h1, rfl⟩ | ⟨h1, rfl⟩ <;> rcases h' with ⟨y, h2, rfl⟩ | ⟨h2, rfl⟩
  · by_cases hxy : x = y
    · rw [hxy]
    · have := cntR_two (c := (bestR L).1) hxy L
      omega
  · have := h2 x; omega
  · have := h1 y; omega
  · rfl
theorem rng_C {V : Int} {f : MV → Option (Sum Unit (Unit ⊕ (List UInt8 × Bool)))} {d : Option (Unit ⊕ (List UInt8 × Bool))} (hd : d = some (.inl ())) (hf : ∀ p, f (encC p) = if V ≤ p.2 then some (.inr (.inr (p.1, true))) else some (.inl ())) :
    ∀ (E : List (List UInt8 × Int)), (E.map (·.1)).Nodup → (∀ p ∈ E, ∀ q ∈ E, V ≤ p.2 → V ≤ q.2 → p.1 = q.1) → Gives (RangeM f d (E.map encC)) fun r => (∃ p ∈ E, V ≤ p.2 ∧ r = .inr (p.1, true)) ∨ ((∀ p ∈ E, p.2 < V) ∧ r = .inl ()) := by
  intro E
  induction E with
  | nil => intro _ _; rw [hd]; exact .mk (.inr ⟨by simp, rfl⟩)
  | cons p E ih =>
    intro hn hu
    obtain ⟨h1, h2⟩ := List.nodup_cons.1 hn
    simp only [List.map_cons, RangeM, hf]
    by_cases hp : V ≤ p.2
    · rw [if_pos hp]
      have hall : (E.map encC).all (fun y => goesOn (f y)) = true := by
        rw [List.all_eq_true]
        intro m hm
        obtain ⟨q, hq, rfl⟩ := List.mem_map.1 hm
        rw [hf]
        by_cases hV : V ≤ q.2
        · have := hu p (by simp) q (by simp [hq]) hp hV
          exact absurd (List.mem_map.2 ⟨q, hq, this.symm⟩) h1
        · rw [if_neg hV]; rfl
      simp only [hall, cond_true]
      exact .mk (.inl ⟨p, by simp, hp, rfl⟩)
    · rw [if_neg hp]
      refine (ih h2 fun a ha b hb => hu a (by simp [ha]) b (by simp [hb])).imp ?_
      rintro r (⟨q, hq, h3, h4⟩ | ⟨h3, h4⟩)
      · exact .inl ⟨q, by simp [hq], h3, h4⟩
      · refine .inr ⟨fun q hq => ?_, h4⟩
        rcases List.mem_cons.1 hq with rfl | hq
        · omega
        · exact h3 q hq
theorem binds_eq {s : SizeSize} (hs : SizeOK s) (L : List ApiReport) (hn : (L.length : Int) = 2 * s.F + 2 * s.T + 1) : Gives (tReportBinds s L) (BindsR (s.F + s.T + 1) L) := by
  have hso := (SizeOK_iff s).1 hs
  have hl : L.length < 2 ^ 32 := by omega
  unfold tReportBinds
  rw [bindsA L hl]
  simp only [bd_s]
  refine Gives.bd (bindsB L (bestR L) hl) ?_
  rintro es ⟨E, rfl, hE⟩
  have hu : ∀ p ∈ E, ∀ q ∈ E, s.F + s.T + 1 ≤ p.2 → s.F + s.T + 1 ≤ q.2 → p.1 = q.1 := by
    intro p hp q hq h1 h2
    have e1 := ((hE.mem p.1 p.2).1 hp).2
    have e2 := ((hE.mem q.1 q.2).1 hq).2
    by_cases hne : p.1 = q.1
    · exact hne
    · have := cntR_two (c := (bestR L).1) hne L
      omega
  refine Gives.bd (rng_C (V := s.F + s.T + 1) (f := tReportBindsL3 s) rfl (fun p => ?_) E hE.nodup hu) ?_
  · unfold tReportBindsL3
    rw [sizeVouch_eq hs]
    simp only [encC, entT, gT, gC, gA, gN, gS, gI, decide_true, cond_true, bd_s]
  · rintro r (⟨p, hp, h1, rfl⟩ | ⟨h1, rfl⟩)
    · refine .mk (.inl ⟨p.1, ?_, rfl⟩)
      have := ((hE.mem p.1 p.2).1 hp).2
      omega
    · refine .mk (.inr ⟨fun x => ?_, ?_⟩)
      · by_cases h0 : 0 < cntR (bestR L).1 L x
        · exact h1 (x, _) ((hE.mem x _).2 ⟨h0, rfl⟩)
        · omega
      · simp only [Prod.mk.injEq, true_and, decide_eq_decide]; omega
theorem binds20_eq {s : SizeSize} (hs : SizeOK s) (L : List ApiReport) (hn : (L.length : Int) = 2 * s.F + 2 * s.T + 1) : Gives (tR20Binds (plS s) L) (BindsR (s.F + s.T + 1) L) := by
  have hso := (SizeOK_iff s).1 hs
  have hl : L.length < 2 ^ 32 := by omega
  unfold tR20Binds
  rw [bindsA20 L hl]
  simp only [bd_s]
  have hcnt : ∀ k (hk : k < L.length), Loop (tR20BindsL2 L (bestR L) (k : Int)) (0, 0) = some (if L[k].Has = true ∧ (bestR L).1 < L[k].View then (cntR (bestR L).1 L L[k].Value : Int) else 0) := by
    intro k hk
    refine Gives.eq (Gives.count (fun j => (if L[k].Has = true ∧ (bestR L).1 < L[k].View then (cntR (bestR L).1 (L.take j) L[k].Value : Int) else 0, (j : Int))) L.length (fun _ => True) (by simp [cntR]) trivial (fun j hj _ => ?_) (fun _ => ?_))
    · unfold tR20BindsL2
      simp only [show ((j : Int) < (L.length : Int)) by omega, if_true, ix_nat hj, ix_nat hk]
      rw [wrap64 (x := (j : Int) + 1) (by omega) (by omega)]
      have hle : cntR (bestR L).1 (L.take j) L[k].Value ≤ L.length := by unfold cntR; exact filter_take_le
      have hcs : cntR (bestR L).1 (L.take (j + 1)) L[k].Value = cntR (bestR L).1 (L.take j) L[k].Value + if hitR (bestR L).1 L[k].Value L[j] then 1 else 0 := by
        unfold cntR
        rw [filter_take_succ hj, List.length_append]
        cases hitR (bestR L).1 L[k].Value L[j] <;> simp
      rw [hcs]
      by_cases g : L[k].Has = true ∧ (bestR L).1 < L[k].View
      · simp only [if_pos g]
        obtain ⟨g1, g2⟩ := g
        simp only [g1, g2, if_true]
        unfold hitR
        cases a1 : L[j].Has with
        | false =>
          simp only [Bool.false_eq_true, if_false, bd_s, Bool.false_and, Nat.add_zero]; exact .mk ⟨rfl, trivial⟩
        | true =>
          simp only [if_true, Bool.true_and]
          by_cases a2 : (bestR L).1 < L[j].View
          · simp only [a2, if_true, decide_true, Bool.true_and, bd_s]
            by_cases a3 : L[j].Value = L[k].Value
            · simp only [a3, decide_true, if_true, bd_s]
              rw [wrap64 (by omega) (by omega)]
              exact .mk ⟨by simp, trivial⟩
            · simp only [a3, decide_false, Bool.false_eq_true, if_false, bd_s, Nat.add_zero]; exact .mk ⟨rfl, trivial⟩
          · simp only [a2, if_false, decide_false, Bool.false_and, Bool.false_eq_true, bd_s, Nat.add_zero]; exact .mk ⟨rfl, trivial⟩
      · simp only [if_neg g]
        have : (if L[j].Has then if (bestR L).1 < L[j].View then if L[k].Has then if (bestR L).1 < L[k].View then some (decide (L[j].Value = L[k].Value)) else some false else some false else some false else some false : Option Bool) = some false := by
          cases b1 : L[j].Has <;> by_cases b2 : (bestR L).1 < L[j].View <;> cases b3 : L[k].Has <;> by_cases b4 : (bestR L).1 < L[k].View <;> simp [b1, b2, b3, b4] <;> exact absurd ⟨b3, b4⟩ g
        rw [this]
        simp only [bd_s, Bool.false_eq_true, if_false]
        exact .mk ⟨rfl, trivial⟩
    · unfold tR20BindsL2
      simp only [show ¬ ((L.length : Int) < (L.length : Int)) by omega, if_false, List.take_length]
      exact .mk rfl
  have no : ∀ k (hk : k < L.length), ¬ (s.F + s.T + 1 ≤ if L[k].Has = true ∧ (bestR L).1 < L[k].View then (cntR (bestR L).1 L L[k].Value : Int) else 0) → hitR (bestR L).1 L[k].Value L[k] = true → (cntR (bestR L).1 L L[k].Value : Int) < s.F + s.T + 1 := by
    intro k hk h1 h2
    simp only [hitR, Bool.and_eq_true, decide_eq_true_eq] at h2
    rw [if_pos ⟨h2.1, h2.2.1⟩] at h1
    omega
  refine Gives.bd (P := fun r => (∃ k, ∃ hk : k < L.length, s.F + s.T + 1 ≤ (if L[k].Has = true ∧ (bestR L).1 < L[k].View then (cntR (bestR L).1 L L[k].Value : Int) else 0) ∧ r = .inr (L[k].Value, true)) ∨ ((∀ k (hk : k < L.length), ¬ (s.F + s.T + 1 ≤ if L[k].Has = true ∧ (bestR L).1 < L[k].View then (cntR (bestR L).1 L L[k].Value : Int) else 0)) ∧ r = .inl ()))
    (Gives.count (fun k => (k : Int)) L.length (fun k => ∀ j (hj : j < L.length), j < k → ¬ (s.F + s.T + 1 ≤ if L[j].Has = true ∧ (bestR L).1 < L[j].View then (cntR (bestR L).1 L L[j].Value : Int) else 0)) rfl (fun j _ hj => by omega) (fun k hk hp => ?_) (fun hp => ?_)) ?_
  · unfold tR20BindsL3
    simp only [show ((k : Int) < (L.length : Int)) by omega, if_true, hcnt k hk, r07Vouch_eq hs, bd_s, ix_nat hk]
    rw [wrap64 (by omega) (by omega)]
    by_cases g : s.F + s.T + 1 ≤ if L[k].Has = true ∧ (bestR L).1 < L[k].View then (cntR (bestR L).1 L L[k].Value : Int) else 0
    · simp only [g, if_true]
      exact .mk (.inl ⟨k, hk, g, rfl⟩)
    · simp only [g, if_false]
      refine .mk ⟨by omega, fun j hj hjk => ?_⟩
      by_cases hjk2 : j = k
      · subst hjk2; exact g
      · exact hp j hj (by omega)
  · unfold tR20BindsL3
    simp only [show ¬ ((L.length : Int) < (L.length : Int)) by omega, if_false]
    exact .mk (.inr ⟨fun k hk => hp k hk hk, rfl⟩)
  · rintro r (⟨k, hk, h1, rfl⟩ | ⟨h1, rfl⟩)
    · refine .mk (.inl ⟨L[k].Value, ?_, rfl⟩)
      by_cases g : L[k].Has = true ∧ (bestR L).1 < L[k].View
      · rw [if_pos g] at h1; exact h1
      · rw [if_neg g] at h1; omega
    · refine .mk (.inr ⟨fun x => ?_, rfl⟩)
      by_cases h0 : 0 < cntR (bestR L).1 L x
      · unfold cntR at h0
        obtain ⟨r, hr⟩ := List.exists_mem_of_length_pos h0
        obtain ⟨hr1, hr2⟩ := List.mem_filter.1 hr
        obtain ⟨k, hk, rfl⟩ := List.mem_iff_getElem.1 hr1
        have hx : L[k].Value = x := by
          simp only [hitR, Bool.and_eq_true, decide_eq_true_eq] at hr2; exact hr2.2.2
        subst hx
        exact no k hk (h1 k hk) hr2
      · omega
theorem vouches_same (s : SizeSize) (view : Int) (L : List ApiReport) (x : List UInt8) (hp : ∀ r ∈ L, r.Proof.length < 2 ^ 32) (hl : L.length < 2 ^ 32) : Gives (tReportVouches s view L x) fun b => tR20Vouches (plS s) view L x = some b := by
  unfold tReportVouches tR20Vouches
  obtain ⟨b1, e1, h1⟩ := repRight_eq s view L hp hl
  obtain ⟨b2, e2, h2⟩ := r20Right_eq s view L hp hl
  rw [e1, e2]
  have : b1 = b2 := by cases b1 <;> cases b2 <;> simp_all
  subst this
  simp only [bd_s]
  cases b1 with
  | false => exact .mk rfl
  | true =>
    have hr := h1.1 rfl
    simp only [Bool.not_true, Bool.false_eq_true, if_false]
    obtain ⟨r, e3, h3⟩ := binds_eq hr.1 L hr.2.1
    obtain ⟨r', e4, h4⟩ := binds20_eq hr.1 L hr.2.1
    have hso := (SizeOK_iff s).1 hr.1
    have := h3.uniq (by have := hr.2.1; omega) h4
    subst this
    rw [e3, e4]
    simp only [bd_s, bd_id]
    cases r.2 with
    | false => exact .mk rfl
    | true => exact .mk rfl
end Dn.S
