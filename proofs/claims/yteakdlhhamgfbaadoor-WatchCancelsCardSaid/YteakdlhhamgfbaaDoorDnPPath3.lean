import Derived.Test.YteakdlhhamgfbaaDoorDnPPath2
import Derived.Test.YteakdlhhamgfbaaDoorDnYV
/-
  Paths: what the document says; PathTells. Conditions: none.
-/
open Go Dn
set_option linter.unusedVariables false
set_option linter.unusedSimpArgs false
namespace Dn.S
theorem r08right_eq (p : List UInt8) : tR08Right p = some (rightB p) := by
  unfold tR08Right
  by_cases hl : p.length ≤ 100
  rotate_left
  · rw [if_pos (by omega)]; simp [rightB, hl]
  rw [if_neg (by omega), r08cut_eq p (by omega), bd_s]
  have hle : ∀ y ∈ (if absB p then namesL p else []), y.length ≤ 100 := by
    intro y hy
    split at hy
    · unfold namesL at hy
      split at hy
      · simp at hy
      · have := split_le _ y hy; rw [List.length_drop] at this; omega
    · simp at hy
  have hlen : (if absB p then namesL p else []).length ≤ 101 := by
    split
    · unfold namesL
      split
      · simp
      · have := splitL_len (c := 47) (p.drop 1); rw [List.length_drop] at this; omega
    · simp
  generalize hL : (if absB p then namesL p else []) = L at hle hlen
  obtain ⟨r, e, hr⟩ := Loop_all (body := tR08RightL1 (L, absB p)) L.length (fun k => nameB (L.getD k []) = true) false (fun k hk _ => by
    have hg : L.getD k [] = L[k] := by rw [List.getD_eq_getElem?_getD, List.getElem?_eq_getElem hk]; rfl
    unfold tR08RightL1
    dsimp only
    rw [if_pos (by omega), ix_nat hk, r08isName_eq _ (by have := hle _ (List.getElem_mem hk); omega), bd_s, hg]
    constructor
    · intro h; rw [h]; simp only [Bool.not_true, Bool.false_eq_true, if_false]; rw [wrap64 (by omega) (by omega)]; rfl
    · intro h; rw [Bool.not_eq_true] at h; rw [h]; rfl) (by
    unfold tR08RightL1
    dsimp only
    rw [if_neg (by omega)])
  rw [e, bd_s]
  have hall : (∀ k, k < L.length → nameB (L.getD k []) = true) ↔ L.all nameB = true := by
    rw [List.all_eq_true]
    constructor
    · intro h x hx
      obtain ⟨k, hk, rfl⟩ := List.mem_iff_getElem.1 hx
      have := h k hk
      rwa [List.getD_eq_getElem?_getD, List.getElem?_eq_getElem hk] at this
    · intro h k hk
      rw [List.getD_eq_getElem?_getD, List.getElem?_eq_getElem hk]
      exact h _ (List.getElem_mem hk)
  unfold rightB
  cases ha : absB p with
  | false =>
    rcases hr with ⟨rfl, h⟩ | ⟨rfl, k, hk, h⟩ <;> simp [bd_s]
  | true =>
    rw [ha] at hL
    simp only [if_true] at hL
    rw [hL]
    rcases hr with ⟨rfl, h⟩ | ⟨rfl, k, hk, h⟩
    · have h := hall.1 h
      simp only [if_true, bd_s, bd_id, h, hl, decide_true, Bool.and_true, Bool.true_and, Option.some.injEq, decide_eq_decide]
      omega
    · have : L.all nameB = false := by
        rw [Bool.eq_false_iff]; intro hh; exact h (hall.2 hh k hk)
      simp [this]
theorem rightB_len {p : List UInt8} (h : rightB p = true) : p.length ≤ 100 ∧ absB p = true ∧ (namesL p).length ≤ 8 ∧ (namesL p).all nameB = true := by
  unfold rightB at h
  simp only [Bool.and_eq_true, decide_eq_true_eq] at h
  exact ⟨h.1.2, h.1.1, h.2.1, h.2.2⟩
theorem r08names_eq (p : List UInt8) : tR08Names p = some (if rightB p then (namesL p, 0) else ([], 13)) := by
  unfold tR08Names
  rw [r08right_eq, bd_s]
  cases h : rightB p with
  | false => simp
  | true =>
    obtain ⟨h1, h2, _⟩ := rightB_len h
    simp only [Bool.not_true, Bool.false_eq_true, if_false, if_true]
    rw [r08cut_eq p (by omega), bd_s, h2]
    rfl
/-- a path, of names -/
def madeL (l : List (List UInt8)) : List UInt8 := if l = [] then [47] else l.flatMap (47 :: ·)
theorem made_eq (l : List (List UInt8)) (h1 : (l.flatMap ((47 : UInt8) :: ·)).length ≤ 2 ^ 40) (h2 : l.length < 2 ^ 60) : tR08Made l = some (madeL l) := by
  have hloop : Loop (tR08MadeL1 l) (([] : List UInt8), 0) = some (l.flatMap ((47 : UInt8) :: ·)) := by
    refine Gives.eq (Gives.count (fun k => ((l.take k).flatMap ((47 : UInt8) :: ·), (k : Int))) l.length (fun _ => True) rfl trivial (fun k hk _ => ?_) (fun _ => ?_))
    · unfold tR08MadeL1
      dsimp only
      have hsp : (l.take (k + 1)).flatMap ((47 : UInt8) :: ·) = (l.take k).flatMap ((47 : UInt8) :: ·) ++ [47] ++ l[k] := by
        rw [take_succ hk, List.flatMap_append]; simp
      have htot : ((l.take (k + 1)).flatMap ((47 : UInt8) :: ·)).length ≤ (l.flatMap ((47 : UInt8) :: ·)).length := by
        have : l.flatMap ((47 : UInt8) :: ·) = (l.take (k + 1)).flatMap ((47 : UInt8) :: ·) ++ (l.drop (k + 1)).flatMap ((47 : UInt8) :: ·) := by
          rw [← List.flatMap_append, List.take_append_drop]
        rw [this, List.length_append]; omega
      rw [hsp] at htot
      simp only [List.length_append, List.length_cons, List.length_nil] at htot
      rw [if_pos (by omega), if_pos (by simp only [List.length_cons, List.length_nil]; omega), ix_nat hk, if_pos (by simp only [List.length_append, List.length_cons, List.length_nil]; omega), wrap64 (by omega) (by omega)]
      refine .mk ⟨?_, trivial⟩
      rw [hsp]
      rfl
    · unfold tR08MadeL1
      dsimp only
      rw [if_neg (by omega), List.take_length]
      exact .mk rfl
  unfold tR08Made
  rw [hloop, bd_s]
  unfold madeL
  cases l with
  | nil => rfl
  | cons a l => simp
theorem lastIndex_eq {a b : List UInt8} (hb : (47 : UInt8) ∉ b) (hl : (a ++ 47 :: b).length < 2 ^ 60) : tStringsLastIndex (a ++ 47 :: b) ([47] : List UInt8) = some (a.length : Int) := by
  have hloop : Loop (tBytealgLastIndexByteStringL1 (a ++ 47 :: b) 47) (((a ++ 47 :: b).length - 1 : Nat) : Int) = some (.inr (a.length : Int)) := by
    refine Gives.eq (Gives.loop (fun st => ∃ i : Nat, st = (i : Int) ∧ a.length ≤ i ∧ i < (a ++ 47 :: b).length) (fun st => st.toNat) ⟨_, rfl, by simp, by simp⟩ ?_)
    rintro st ⟨i, rfl, h1, h2⟩
    unfold tBytealgLastIndexByteStringL1
    rw [if_pos (by omega), if_pos ⟨by omega, by omega⟩]
    have hg : (a ++ 47 :: b).getD (Int.toNat (i : Int)) 0 = (a ++ 47 :: b)[i] := by
      rw [Int.toNat_natCast, List.getD_eq_getElem?_getD, List.getElem?_eq_getElem h2]; rfl
    rw [hg]
    by_cases hi : i = a.length
    · subst hi
      rw [List.getElem_append_right (by omega)]
      simp
      exact .mk rfl
    · have hne : (a ++ 47 :: b)[i] ≠ 47 := by
        obtain ⟨j, hj⟩ : ∃ j, i = a.length + (j + 1) := ⟨i - a.length - 1, by omega⟩
        subst hj
        rw [List.getElem_append_right (by omega)]
        simp only [Nat.add_sub_cancel_left, List.getElem_cons_succ]
        intro e
        apply hb
        rw [← e]
        exact List.getElem_mem _
      have hne' : ¬ ((((a ++ 47 :: b)[i]).toNat : Int) = 47) := by
        intro e; apply hne; apply UInt8.toNat_inj.1
        show _ = 47
        omega
      rw [if_neg hne', wrap64 (by omega) (by omega)]
      exact .mk ⟨⟨i - 1, by omega, by omega, by omega⟩, by omega⟩
  unfold tStringsLastIndex
  rw [if_neg (by decide), if_pos (by decide), if_pos (by decide)]
  have h47 : (((([47] : List UInt8).getD (Int.toNat 0) 0).toNat : Nat) : Int) = 47 := by decide
  rw [h47]
  unfold tBytealgLastIndexByteString
  have hlen : ((a ++ 47 :: b).length : Int) - 1 = (((a ++ 47 :: b).length - 1 : Nat) : Int) := by simp; omega
  rw [hlen, wrap64 (by omega) (by omega), hloop]
  rfl
theorem abs_cons {p : List UInt8} (h : absB p = true) : ∃ r, p = 47 :: r := by
  cases p with
  | nil => simp [absB] at h
  | cons x r => exact ⟨r, by have : x = 47 := by simpa [absB] using h
                             rw [this]⟩
/-- a path that is not the root: all but its last name, and it -/
theorem path_last {p : List UInt8} (h : absB p = true) (h1 : p ≠ [47]) : ∃ L x, namesL p = L ++ [x] ∧ p = L.flatMap ((47 : UInt8) :: ·) ++ 47 :: x ∧ (47 : UInt8) ∉ x := by
  obtain ⟨r, rfl⟩ := abs_cons h
  have hn : namesL (47 :: r) = splitL 47 r := by simp [namesL, h1]
  have hdl := dropLast_getLastD (splitL_ne (c := 47) r)
  refine ⟨_, _, by rw [hn]; exact hdl.symm, ?_, split_no r _ (by rw [← hdl]; simp)⟩
  have := join_split (c := 47) r
  rw [← hdl, List.flatMap_append] at this
  simpa using this.symm
theorem parent_eq (p : List UInt8) : tPathParent p = some (if rightB p then (if p = [47] then ([], 6) else (madeL (namesL p).dropLast, 0)) else ([], 13)) := by
  unfold tPathParent
  rw [right_eq, bd_s]
  cases h : rightB p with
  | false => simp
  | true =>
    obtain ⟨h1, h2, h3, h4⟩ := rightB_len h
    simp only [Bool.not_true, Bool.false_eq_true, if_false, if_true]
    by_cases hp : p = [47]
    · rw [if_pos hp, if_pos hp]
    · rw [if_neg hp, if_neg hp]
      obtain ⟨L, x, e1, e2, e3⟩ := path_last h2 hp
      rw [e1, List.dropLast_concat]
      rw [e2] at h1 ⊢
      rw [lastIndex_eq e3 (by omega), bd_s]
      generalize hJ : L.flatMap ((47 : UInt8) :: ·) = J at h1
      have hm : imax 1 (J.length : Int) = ((max 1 J.length : Nat) : Int) := by unfold imax; split <;> omega
      have hle : max 1 J.length ≤ (J ++ 47 :: x).length := by simp; omega
      rw [hm, if_pos ⟨by decide, by omega, by omega⟩]
      simp only [Int.toNat_natCast, Int.toNat_zero, List.drop_zero, Option.some.injEq, Prod.mk.injEq, and_true]
      unfold madeL
      cases L with
      | nil => simp at hJ; subst hJ; simp
      | cons a L =>
        rw [if_neg (by simp), hJ]
        have hpos : 1 ≤ J.length := by rw [← hJ]; simp
        rw [Nat.max_eq_right hpos, List.take_left']
        rfl
theorem names_len {p : List UInt8} (h : rightB p = true) : ((namesL p).length = 0 ↔ p = [47]) := by
  obtain ⟨h1, h2, h3, h4⟩ := rightB_len h
  constructor
  · intro h0
    by_cases hp : p = [47]
    · exact hp
    · obtain ⟨L, x, e1, _⟩ := path_last h2 hp
      rw [e1] at h0; simp at h0
  · intro hp; simp [namesL, hp]
theorem flat_len {p : List UInt8} (h : absB p = true) (k : Nat) : (((namesL p).take k).flatMap ((47 : UInt8) :: ·)).length ≤ p.length := by
  by_cases hp : p = [47]
  · subst hp; simp [namesL]
  · obtain ⟨r, rfl⟩ := abs_cons h
    have hn : namesL (47 :: r) = splitL 47 r := by simp [namesL, hp]
    have := join_split (c := 47) r
    rw [hn]
    rw [← List.take_append_drop k (splitL 47 r), List.flatMap_append] at this
    rw [← this, List.length_append]; omega
theorem r08parent_eq (p : List UInt8) : tR08Parent p = some (if rightB p then (if p = [47] then ([], 6) else (madeL (namesL p).dropLast, 0)) else ([], 13)) := by
  unfold tR08Parent
  rw [r08names_eq, bd_s]
  cases h : rightB p with
  | false => simp
  | true =>
    obtain ⟨h1, h2, h3, h4⟩ := rightB_len h
    simp only [if_true, decide_true, Bool.not_true, Bool.false_eq_true, if_false]
    by_cases hp : p = [47]
    · rw [if_pos hp, if_pos (by rw [(names_len h).2 hp]; rfl)]
    · have hne : ¬ (namesL p).length = 0 := fun e => hp ((names_len h).1 e)
      rw [if_neg hp, if_neg (by omega), wrap64 (by omega) (by omega), if_pos ⟨by decide, by omega, by omega⟩]
      have e1 : (((namesL p).length : Int) - 1).toNat = (namesL p).length - 1 := by omega
      simp only [Int.toNat_zero, List.drop_zero, e1]
      rw [← List.dropLast_eq_take]
      rw [made_eq _ (by rw [List.dropLast_eq_take]; have := flat_len h2 ((namesL p).length - 1); omega) (by simp; omega), bd_s]
theorem strings_eq (a b : List (List UInt8)) (hl : a.length < 2 ^ 60) : tR01Strings a b = some (decide (a = b)) := by
  unfold tR01Strings
  by_cases he : a.length = b.length
  · have : decide ((a.length : Int) = (b.length : Int)) = true := decide_eq_true (by omega)
    rw [this]
    simp only [Bool.not_true, Bool.false_eq_true, if_false]
    rw [Loop_same he (fun k ha hb => by
      unfold tR01StringsL1
      rw [if_pos (by omega), ix_nat ha, ix_nat hb, wrap64 (by omega) (by omega)]
      by_cases hh : a[k] = b[k] <;> simp [hh]) (by
      unfold tR01StringsL1
      rw [if_neg (by omega)]), bd_s]
    by_cases hab : a = b <;> simp [hab]
  · have : decide ((a.length : Int) = (b.length : Int)) = false := decide_eq_false (by omega)
    rw [this]
    have hab : a ≠ b := fun e => he (by rw [e])
    simp [hab]
theorem pathTells_all (s : List UInt8) : tL08PathTells s = some true := by
  unfold tL08PathTells
  by_cases hl : s.length ≤ 1000
  rotate_left
  · rw [if_pos (by omega), evL08Alive]; rfl
  rw [if_neg (by omega), names_eq, bd_s, r08names_eq, bd_s, parent_eq, bd_s, r08parent_eq, bd_s, evL08Alive, bd_s, if_pos rfl, isName_eq, bd_s, r08isName_eq s (by omega), bd_s, if_pos rfl, right_eq, bd_s, r08right_eq, bd_s, if_pos rfl]
  rw [strings_eq _ _ (by
    split
    · rename_i h; have := (rightB_len h).2.2.1; simp; omega
    · simp), bd_s]
  simp
end Dn.S
