import Derived.Test.YteakdlhhamgfbaaDoorDnPShelf2
/-
  Shelves: the document's word; ShelfMay. Conditions: none.
-/
open Go Dn
set_option linter.unusedVariables false
set_option linter.unusedSimpArgs false
namespace Dn.S
theorem atI_zero {l : List (List UInt8)} {p : List UInt8} : atI l p = 0 ↔ l.head? = some p := by
  cases l with
  | nil => simp [atI]
  | cons a l =>
    unfold atI
    rw [List.findIdx?_cons]
    by_cases h : a = p
    · simp [h]
    · simp only [h, decide_false, Bool.false_eq_true, if_false, List.head?_cons, Option.some.injEq, iff_false]
      cases hf : l.findIdx? (fun x => decide (x = p)) with
      | none => simp
      | some k => simp; omega
theorem plain_paths (L : List ShelfNode) : (L.map toR).map (·.Path) = L.map (·.Path) := by
  rw [List.map_map]; rfl
theorem toR_path (x : ShelfNode) : (toR x).Path = x.Path := rfl
theorem toR_value (x : ShelfNode) : (toR x).Value = x.Value := rfl
theorem toR_version (x : ShelfNode) : (toR x).Version = x.Version := rfl
theorem toR_owner (x : ShelfNode) : (toR x).Owner = x.Owner := rfl
theorem r09right_eq (s : ShelfShelf) (hl : s.L.length < 2 ^ 40) : tR09Right (plainS s) = some (shelfB s.L) := by
  have hlen : (plainS s).L.length = s.L.length := List.length_map ..
  have hat : ∀ p, tR09At (plainS s) p = some (atI (s.L.map (·.Path)) p) := by
    intro p
    rw [at_eq (plainS s) p (by rw [hlen]; exact hl)]
    show some (atI ((s.L.map toR).map (·.Path)) p) = _
    rw [plain_paths]
  unfold tR09Right shelfB
  rw [hlen]
  by_cases h1 : 1 ≤ s.L.length
  rotate_left
  · rw [if_pos (by omega), bd_s, if_pos rfl, decide_eq_false h1]; rfl
  by_cases h2 : s.L.length ≤ 200
  rotate_left
  · rw [if_neg (by omega), decide_eq_true (by omega), bd_s, if_pos rfl, decide_eq_false h2]; simp
  rw [if_neg (by omega), decide_eq_false (by omega), bd_s, if_neg (by decide), decide_eq_true h1, decide_eq_true h2]
  obtain ⟨r, e, hr⟩ := Loop_all (body := tR09RightL1 (plainS s)) s.L.length (fun k => okK s.L k = true) false (fun k hk _ => by
    have hok : okK s.L k = ((rightB (s.L[k]).Path && (decide ((s.L[k]).Value.length ≤ 1000) && (decide (0 ≤ (s.L[k]).Version) && (decide ((s.L[k]).Version ≤ 1000000000) && (decide (0 ≤ (s.L[k]).Owner) && grownB s.L s.L[k]))))) &&
      (decide (k = 0) || match s.L[k - 1]? with
        | some y => aheadB y.Path (s.L[k]).Path
        | none => false)) := by
      unfold okK; rw [List.getElem?_eq_getElem hk]; rfl
    rw [hok]
    have hkp : k < (plainS s).L.length := by rw [hlen]; exact hk
    have hget : (plainS s).L[k] = toR s.L[k] := List.getElem_map ..
    unfold tR09RightL1
    rw [if_pos (by omega), ix_nat hkp, hget]
    generalize hx : s.L[k] = x
    simp only [toR_path, toR_value, toR_version, toR_owner]
    rw [r08right_eq, bd_s]
    cases c1 : rightB x.Path with
    | false => simp [bd_s]
    | true =>
    by_cases c2 : x.Value.length ≤ 1000
    rotate_left
    · rw [if_neg (by decide), if_pos (by omega)]; simp [bd_s, c2]
    by_cases c3 : 0 ≤ x.Version
    rotate_left
    · rw [if_neg (by decide), if_neg (by omega), if_pos (by omega)]; simp [bd_s, c3]
    by_cases c4 : x.Version ≤ 1000000000
    rotate_left
    · rw [if_neg (by decide), if_neg (by omega), if_neg (by omega), if_pos (by omega)]; simp [bd_s, c4]
    by_cases c5 : 0 ≤ x.Owner
    rotate_left
    · rw [if_neg (by decide), if_neg (by omega), if_neg (by omega), if_neg (by omega), if_pos (by omega)]; simp [bd_s, c5]
    rw [if_neg (by decide), if_neg (by omega), if_neg (by omega), if_neg (by omega), if_neg (by omega)]
    -- the parent's part
    have hpar : ∀ (X : Option (Int ⊕ (Unit ⊕ Bool))), (grownB s.L x = true → X = some (.inl ((k + 1 : Nat) : Int))) → (grownB s.L x = false → X = some (.inr (.inr false))) → True := fun _ _ _ => trivial
    have hgp : (bd (tR08Parent x.Path) fun rA2 =>
         if !decide (rA2.2 = 0) then
         if !decide (x.Owner = 0) then
         some (Sum.inr (Sum.inr false))
         else
         some (Sum.inl (IntKind.wrap .i64 ((k : Int) + 1)))
         else
         bd (tR09At (plainS s) rA2.1) fun rA3 =>
         bd (
           if rA3 < 0 then
           some true
           else
           ix (plainS s).L rA3 fun y2 =>
           some (!decide (y2.Owner = 0)) : Option Bool) fun w3 =>
         if w3 then
         some (Sum.inr (Sum.inr false))
         else
         some (Sum.inl (IntKind.wrap .i64 ((k : Int) + 1))) : Option (Int ⊕ (Unit ⊕ Bool))) = if grownB s.L x then some (.inl ((k + 1 : Nat) : Int)) else some (.inr (.inr false)) := by
      rw [r08parent_eq, bd_s, wrap64 (by omega) (by omega)]
      show (if !decide ((parentP x.Path).2 = 0) then _ else bd (tR09At (plainS s) (parentP x.Path).1) _) = _
      unfold grownB
      by_cases h : (parentP x.Path).2 = 0
      · rw [decide_eq_true h, if_neg (by decide), if_pos h, hat, bd_s]
        unfold freeB
        by_cases hi : 0 ≤ atI (s.L.map (·.Path)) (parentP x.Path).1
        · have hlt := atI_lt hi
          rw [List.length_map] at hlt
          have hlt2 : (atI (s.L.map (·.Path)) (parentP x.Path).1).toNat < (plainS s).L.length := by rw [hlen]; exact hlt
          have hg2 : (plainS s).L[(atI (s.L.map (·.Path)) (parentP x.Path).1).toNat] = toR s.L[(atI (s.L.map (·.Path)) (parentP x.Path).1).toNat] := List.getElem_map ..
          rw [if_neg (by omega), ix_int hi hlt2, hg2, bd_s, List.getElem?_eq_getElem hlt, decide_eq_true hi]
          show (if !decide ((s.L[(atI (s.L.map (·.Path)) (parentP x.Path).1).toNat]).Owner = 0) then _ else _) = _
          generalize s.L[(atI (s.L.map (·.Path)) (parentP x.Path).1).toNat] = y
          by_cases ho : y.Owner = 0 <;> simp [ho]
        · rw [if_pos (by omega), bd_s, decide_eq_false hi]; simp
      · rw [decide_eq_false h, if_pos (by decide), if_neg h]
        by_cases ho : x.Owner = 0 <;> simp [ho]
    by_cases hk0 : k = 0
    · subst hk0
      rw [if_neg (by omega), bd_s, if_neg (by decide)]
      refine ⟨fun h => ?_, fun h => ?_⟩
      · refine hgp.trans ?_
        rw [if_pos (by simp only [Bool.and_eq_true] at h; exact h.1.2.2.2.2.2)]
      · refine hgp.trans ?_
        rw [if_neg (by simp [c2, c3, c4, c5] at h; simpa using h)]
    · have hk1 : k - 1 < s.L.length := by omega
      have hk1p : k - 1 < (plainS s).L.length := by rw [hlen]; exact hk1
      have hg1 : (plainS s).L[k - 1] = toR s.L[k - 1] := List.getElem_map ..
      rw [if_pos (by omega), wrap64 (by omega) (by omega), show (k : Int) - 1 = ((k - 1 : Nat) : Int) by omega, ix_nat hk1p, hg1]
      simp only [toR_path]
      rw [r08ahead_eq, bd_s, bd_s, List.getElem?_eq_getElem hk1]
      cases c7 : aheadB (s.L[k - 1]).Path x.Path with
      | false => simp [hk0, c7]
      | true =>
        rw [if_neg (by decide)]
        refine ⟨fun h => ?_, fun h => ?_⟩
        · refine hgp.trans ?_
          rw [if_pos (by simp only [Bool.and_eq_true] at h; exact h.1.2.2.2.2.2)]
        · refine hgp.trans ?_
          rw [if_neg (by simp [c2, c3, c4, c5, c7] at h; simpa using h)]) (by
    unfold tR09RightL1
    rw [if_neg (by omega)])
  rw [e, bd_s]
  have hall : (∀ k, k < s.L.length → okK s.L k = true) ↔ (List.range s.L.length).all (okK s.L) = true := by
    rw [List.all_eq_true]
    exact ⟨fun h k hk => h k (List.mem_range.1 hk), fun h k hk => h k (List.mem_range.2 hk)⟩
  rcases hr with ⟨rfl, h⟩ | ⟨rfl, k, hk, h⟩
  · rw [hall.1 h]
    simp only [hat, bd_s, Bool.and_true, Bool.true_and, Option.some.injEq, decide_eq_decide]
    exact atI_zero
  · have : (List.range s.L.length).all (okK s.L) = false := by
      rw [Bool.eq_false_iff]; intro hh; exact h (hall.2 hh k hk)
    rw [this]; simp
theorem node_eq (a b : ShelfNode) : ((decide (a.Path = b.Path)) && ((decide (a.Value = b.Value)) && ((decide (a.Version = b.Version)) && (decide (a.Owner = b.Owner))))) = decide (a = b) := by
  cases a; cases b; simp [Bool.eq_iff_iff]
theorem shelfSame_eq (s t : ShelfShelf) (hl : s.L.length < 2 ^ 40) : tShelfSame s t = some (decide (s.L = t.L)) := by
  unfold tShelfSame tSlicesEqualShelfNode
  rw [bd_id]
  by_cases he : s.L.length = t.L.length
  · have : decide ((s.L.length : Int) = (t.L.length : Int)) = true := decide_eq_true (by omega)
    rw [this, if_neg (by decide), Loop_same he (fun k ha hb => by
      unfold tSlicesEqualShelfNodeL1
      rw [if_pos (by omega), ix_nat ha, ix_nat hb, node_eq, wrap64 (by omega) (by omega)]
      by_cases hh : s.L[k] = t.L[k] <;> simp [hh]) (by
      unfold tSlicesEqualShelfNodeL1
      rw [if_neg (by omega)]), bd_s]
    by_cases hab : s.L = t.L <;> simp [hab]
  · have : decide ((s.L.length : Int) = (t.L.length : Int)) = false := decide_eq_false (by omega)
    rw [this, if_pos (by decide)]
    have hab : s.L ≠ t.L := fun e => he (by rw [e])
    simp [hab]
theorem rnode_eq (a b : R09Node) : ((decide (a.Path = b.Path)) && ((decide (a.Value = b.Value)) && ((decide (a.Version = b.Version)) && (decide (a.Owner = b.Owner))))) = decide (a = b) := by
  cases a; cases b; simp [Bool.eq_iff_iff]
theorem r09same_eq (s t : R09Shelf) (hl : s.L.length < 2 ^ 40) : tR09Same s t = some (decide (s.L = t.L)) := by
  unfold tR09Same
  by_cases he : s.L.length = t.L.length
  · have : decide ((s.L.length : Int) = (t.L.length : Int)) = true := decide_eq_true (by omega)
    rw [this, if_neg (by decide), Loop_same he (fun k ha hb => by
      unfold tR09SameL1
      rw [if_pos (by omega), ix_nat ha, ix_nat hb, rnode_eq, wrap64 (by omega) (by omega)]
      by_cases hh : s.L[k] = t.L[k] <;> simp [hh]) (by
      unfold tR09SameL1
      rw [if_neg (by omega)]), bd_s]
    by_cases hab : s.L = t.L <;> simp [hab]
  · have : decide ((s.L.length : Int) = (t.L.length : Int)) = false := decide_eq_false (by omega)
    rw [this, if_pos (by decide)]
    have hab : s.L ≠ t.L := fun e => he (by rw [e])
    simp [hab]
theorem map_toR {a b : List ShelfNode} : a.map toR = b.map toR ↔ a = b := by
  constructor
  · intro h
    exact List.map_inj_right (fun _ _ => toR_inj) |>.1 h
  · intro h; rw [h]
theorem shelfMay_all (s t : ShelfShelf) : tL09ShelfMay s t = some true := by
  unfold tL09ShelfMay
  obtain ⟨b, e1, h1⟩ := few_eq s
  obtain ⟨c, e2, h2⟩ := few_eq t
  rw [e1, bd_s, e2, evL09Alive]
  cases b with
  | false => rfl
  | true =>
    cases c with
    | false => rfl
    | true =>
      have h1 := h1 rfl
      have h2 := h2 rfl
      rw [if_neg (by decide), bd_s, bd_s, if_neg (by decide), bd_s, if_pos rfl, shelfRight_eq s (by omega), bd_s, plain_eq s (by omega), bd_s, r09right_eq s (by omega), bd_s, if_pos rfl, shelfSame_eq s t (by omega), bd_s, bd_s, plain_eq t (by omega), bd_s,
        r09same_eq (plainS s) (plainS t) (by show (s.L.map toR).length < _; rw [List.length_map]; omega), bd_s]
      have hs : decide (s.L = t.L) = decide ((plainS s).L = (plainS t).L) := by
        rw [decide_eq_decide]; exact map_toR.symm
      rw [if_pos hs]
      unfold tShelfNew tR09New
      rw [bd_s, plain_eq _ (by simp), bd_s, bd_s, r09same_eq _ _ (by simp [plainS]), bd_s]
      simp [plainS, toR]
end Dn.S
