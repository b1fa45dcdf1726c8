import Derived.Test.YteakdlhhamgfbaaDoorDnPShelf
/-
  Shelves: which may be, which are alike; ShelfMay. Conditions: none.
-/
open Go Dn
set_option linter.unusedVariables false
set_option linter.unusedSimpArgs false
namespace Dn.S
theorem atI_lt {l : List (List UInt8)} {p : List UInt8} (h : 0 ≤ atI l p) : (atI l p).toNat < l.length := by
  unfold atI at h ⊢
  cases hf : l.findIdx? (fun x => decide (x = p)) with
  | none => rw [hf] at h; simp at h
  | some k =>
    rw [List.findIdx?_eq_some_iff_getElem] at hf
    obtain ⟨hk, _⟩ := hf
    simpa using hk
/-- a path's parent, and why there is none -/
def parentP (p : List UInt8) : List UInt8 × Int := if rightB p then (if p = [47] then ([], 6) else (madeL (namesL p).dropLast, 0)) else ([], 13)
/-- is a node there, that has no owner -/
def freeB (L : List ShelfNode) (p : List UInt8) : Bool := decide (0 ≤ atI (L.map (·.Path)) p) && match L[(atI (L.map (·.Path)) p).toNat]? with
  | some y => decide (y.Owner = 0)
  | none => false
def grownB (L : List ShelfNode) (n : ShelfNode) : Bool := if (parentP n.Path).2 = 0 then freeB L (parentP n.Path).1 else decide (n.Owner = 0)
theorem grown_eq (s : ShelfShelf) (n : ShelfNode) (hl : s.L.length < 2 ^ 40) : tShelfShelfGrown s n = some (grownB s.L n) := by
  unfold tShelfShelfGrown
  rw [parent_eq, bd_s]
  show (if !decide ((parentP n.Path).2 = 0) then _ else bd (tSlicesIndexFuncShelfNode s.L (fun u => tShelfShelfGrownF1 u (parentP n.Path).1)) _) = _
  unfold grownB
  by_cases h : (parentP n.Path).2 = 0
  · have hi0 := index_eq s.L (fun u => tShelfShelfGrownF1 u (parentP n.Path).1) (parentP n.Path).1 (fun x => rfl) hl
    rw [decide_eq_true h, if_neg (by decide), if_pos h, hi0, bd_s, bd_id]
    unfold freeB
    by_cases hi : 0 ≤ atI (s.L.map (·.Path)) (parentP n.Path).1
    · have hlt := atI_lt hi
      rw [List.length_map] at hlt
      rw [if_pos hi, ix_int hi hlt, List.getElem?_eq_getElem hlt, decide_eq_true hi]; rfl
    · rw [if_neg hi, decide_eq_false hi]; rfl
  · rw [decide_eq_false h, if_pos (by decide), if_neg h]
def okK (L : List ShelfNode) (k : Nat) : Bool := match L[k]? with
  | none => false
  | some x => (rightB x.Path && (decide (x.Value.length ≤ 1000) && (decide (0 ≤ x.Version) && (decide (x.Version ≤ 1000000000) && (decide (0 ≤ x.Owner) && grownB L x))))) &&
      (decide (k = 0) || match L[k - 1]? with
        | some y => aheadB y.Path x.Path
        | none => false)
/-- a shelf that may be -/
def shelfB (L : List ShelfNode) : Bool := (decide (1 ≤ L.length) && decide (L.length ≤ 200)) && (decide ((L.map (·.Path)).head? = some [47]) && (List.range L.length).all (okK L))
theorem shelfRight_eq (s : ShelfShelf) (hl : s.L.length < 2 ^ 40) : tShelfRight s = some (shelfB s.L) := by
  unfold tShelfRight shelfB
  by_cases h1 : 1 ≤ s.L.length
  rotate_left
  · rw [if_pos (by omega), bd_s, if_pos rfl, decide_eq_false h1]; rfl
  by_cases h2 : s.L.length ≤ 200
  rotate_left
  · rw [if_neg (by omega), if_pos (by omega), bd_s, if_pos rfl, decide_eq_false h2]; simp
  have hhd : (s.L.map (·.Path)).head? = some (s.L[0]'(by omega)).Path := by
    rw [List.head?_map, List.head?_eq_getElem?, List.getElem?_eq_getElem (by omega)]; rfl
  rw [if_neg (by omega), if_neg (by omega), ix_zero (by omega), bd_s, hhd, decide_eq_true h1, decide_eq_true h2]
  by_cases h3 : (s.L[0]'(by omega)).Path = [47]
  rotate_left
  · simp [h3]
  rw [decide_eq_true h3, if_neg (by decide)]
  obtain ⟨r, e, hr⟩ := Loop_all (body := tShelfRightL1 s) s.L.length (fun k => okK s.L k = true) false (fun k hk _ => by
    have hok : okK s.L k = ((rightB (s.L[k]).Path && (decide ((s.L[k]).Value.length ≤ 1000) && (decide (0 ≤ (s.L[k]).Version) && (decide ((s.L[k]).Version ≤ 1000000000) && (decide (0 ≤ (s.L[k]).Owner) && grownB s.L s.L[k]))))) &&
      (decide (k = 0) || match s.L[k - 1]? with
        | some y => aheadB y.Path (s.L[k]).Path
        | none => false)) := by
      unfold okK; rw [List.getElem?_eq_getElem hk]
    rw [hok]
    unfold tShelfRightL1
    rw [if_pos (by omega), ix_nat hk, right_eq, bd_s]
    generalize hx : s.L[k] = x
    have hg := grown_eq s x hl
    cases c1 : rightB x.Path with
    | false => simp [bd_s]
    | true =>
    by_cases c2 : x.Value.length ≤ 1000
    rotate_left
    · rw [if_neg (by decide), if_pos (by omega)]; simp [bd_s, c2]
    by_cases c3 : 0 ≤ x.Version
    rotate_left
    · rw [if_neg (by decide), if_neg (by omega), if_pos (by omega)]; simp [bd_s, c3]
    by_cases c4 : x.Version ≤ 1000000000
    rotate_left
    · rw [if_neg (by decide), if_neg (by omega), if_neg (by omega), if_pos (by omega)]; simp [bd_s, c4]
    by_cases c5 : 0 ≤ x.Owner
    rotate_left
    · rw [if_neg (by decide), if_neg (by omega), if_neg (by omega), if_neg (by omega), if_pos (by omega)]; simp [bd_s, c5]
    rw [if_neg (by decide), if_neg (by omega), if_neg (by omega), if_neg (by omega), if_neg (by omega), hg, bd_s, bd_s]
    cases c6 : grownB s.L x with
    | false => simp
    | true =>
    rw [if_neg (by decide)]
    by_cases hk0 : k = 0
    · subst hk0
      rw [if_neg (by omega), bd_s, if_neg (by decide), wrap64 (by omega) (by omega)]
      simp [c2, c3, c4, c5]
    · have hk1 : k - 1 < s.L.length := by omega
      rw [if_pos (by omega), wrap64 (by omega) (by omega), show (k : Int) - 1 = ((k - 1 : Nat) : Int) by omega, ix_nat hk1, ahead_eq, bd_s, bd_s, List.getElem?_eq_getElem hk1]
      cases c7 : aheadB (s.L[k - 1]).Path x.Path with
      | false => simp [hk0, c7]
      | true => rw [if_neg (by decide), wrap64 (by omega) (by omega)]; simp [c2, c3, c4, c5, c7]) (by
    unfold tShelfRightL1
    rw [if_neg (by omega)])
  rw [e, bd_s]
  have hall : (∀ k, k < s.L.length → okK s.L k = true) ↔ (List.range s.L.length).all (okK s.L) = true := by
    rw [List.all_eq_true]
    exact ⟨fun h k hk => h k (List.mem_range.1 hk), fun h k hk => h k (List.mem_range.2 hk)⟩
  rcases hr with ⟨rfl, h⟩ | ⟨rfl, k, hk, h⟩
  · rw [hall.1 h]; simp [h3]
  · have : (List.range s.L.length).all (okK s.L) = false := by
      rw [Bool.eq_false_iff]; intro hh; exact h (hall.2 hh k hk)
    rw [this]; simp
end Dn.S
