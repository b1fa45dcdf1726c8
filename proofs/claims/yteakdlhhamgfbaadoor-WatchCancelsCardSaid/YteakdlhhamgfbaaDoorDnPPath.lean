import Derived.Test.YteakdlhhamgfbaaDoorDnD
import Derived.Test.YteakdlhhamgfbaaDoorDnYT
import Derived.Laws.RangeString
/-
  Names and paths: what the functions yield. Conditions: none.
-/
open Go Dn
set_option linter.unusedVariables false
set_option linter.unusedSimpArgs false
namespace Dn.S
def letters : List UInt8 := [97, 98, 99, 100, 101, 102, 103, 104, 105, 106, 107, 108, 109, 110, 111, 112, 113, 114, 115, 116, 117, 118, 119, 120, 121, 122, 48, 49, 50, 51, 52, 53, 54, 55, 56, 57, 45, 95]
def isLet (b : UInt8) : Bool := letters.contains b
/-- a name -/
def nameB (s : List UInt8) : Bool := decide (s ≠ []) && (decide (s.length ≤ 30) && s.all isLet)
theorem let_lt {b : UInt8} (h : isLet b = true) : b.toNat < 128 := by
  have hm : b ∈ letters := by simpa [isLet] using h
  have : ∀ x ∈ letters, x.toNat < 128 := by decide
  exact this b hm
theorem index_mem (l : List UInt8) (c : UInt8) : 0 ≤ Lib.indexByte l c ↔ c ∈ l := by
  induction l with
  | nil => simp [Lib.indexByte]
  | cons b l ih =>
    have hge := Lib.indexByte_ge l c
    unfold Lib.indexByte
    by_cases hb : b = c
    · subst hb; simp
    · have hb' : (b == c) = false := by simpa using hb
      have hb2 : ¬ c = b := fun e => hb e.symm
      simp only [hb', if_neg (show ¬ (false = true) by decide), List.mem_cons, hb2, false_or, ← ih]
      by_cases hi : Lib.indexByte l c = -1
      · simp [hi]
      · have hi' : (Lib.indexByte l c == -1) = false := by simpa using hi
        simp only [hi', if_neg (show ¬ (false = true) by decide)]; omega
theorem isNameF1_eq {b : UInt8} (h : isLet b = true) : tPathIsNameF1 (b.toNat : Int) = some false := by
  have hlt := let_lt h
  have hm : b ∈ letters := by simpa [isLet] using h
  unfold tPathIsNameF1 tHasRune
  have h1 : decide ((0 : Int) ≤ (b.toNat : Int) ∧ (b.toNat : Int) < 128) = true := decide_eq_true ⟨by omega, by omega⟩
  have h2 : ((b.toNat : Int)).toNat.toUInt8 = b := by simp
  rw [h1, h2]
  have h3 : decide (0 ≤ Lib.indexByte letters b) = true := decide_eq_true ((index_mem _ _).2 hm)
  simp only [cond_true, bd_s]
  show some (!decide (0 ≤ Lib.indexByte letters b)) = _
  rw [h3]; rfl
theorem contains_eq {s : List UInt8} (h : s.all isLet = true) (hl : s.length < 2 ^ 60) : tStringsContainsFunc s tPathIsNameF1 = some false := by
  have hloop : Loop (tStringsIndexInL1 tPathIsNameF1 true) ([.s s, .i .i64 0] : List MV) = some (.inl ()) := by
    refine Gives.eq (Gives.count (fun k => ([.s s, .i .i64 (k : Int)] : List MV)) s.length (fun _ => True) rfl trivial (fun k hk _ => ?_) (fun _ => ?_))
    · have hb : isLet s[k] = true := List.all_eq_true.1 h _ (List.getElem_mem hk)
      have hd : Utf8.decode (⟨s.toArray⟩ : ByteArray) k = (s[k].toNat, 1) := by
        have := decode_ascii (⟨s.toArray⟩ : ByteArray) k (by simpa [ByteArray.size] using hk) (by simpa [ByteArray.getElem_eq_getElem_data] using let_lt hb)
        simpa [ByteArray.getElem_eq_getElem_data] using this
      unfold tStringsIndexInL1
      have h1 : itOk ([.s s, .i .i64 (k : Int)] : List MV) = true := by simp [itOk, itPos, itS, hk]
      have h2 : itRune ([.s s, .i .i64 (k : Int)] : List MV) = (s[k].toNat : Int) := by simp [itRune, itPos, itS, hd]
      have h3 : itStep ([.s s, .i .i64 (k : Int)] : List MV) = [.s s, .i .i64 ((k + 1 : Nat) : Int)] := by simp [itStep, itPos, itS, hd]
      rw [if_pos h1, h2, isNameF1_eq hb, bd_s, if_neg (by decide), h3]
      exact .mk ⟨rfl, trivial⟩
    · unfold tStringsIndexInL1
      have h1 : itOk ([.s s, .i .i64 (s.length : Int)] : List MV) = false := by simp [itOk, itPos, itS]
      rw [if_neg (by rw [h1]; decide)]
      exact .mk rfl
  unfold tStringsContainsFunc tStringsIndexFunc tStringsIndexIn
  rw [hloop]
  rfl
theorem trimS_nil (s : List UInt8) : Lib.trimS s letters = [] ↔ s.all isLet = true := by
  unfold Lib.trimS Lib.trimLeftS Lib.trimRightS
  have hd : ∀ l : List UInt8, l.dropWhile (letters.contains ·) = [] ↔ l.all isLet = true := by
    intro l
    induction l with
    | nil => simp
    | cons a l ih =>
      simp only [List.dropWhile_cons, List.all_cons]
      cases ha : letters.contains a with
      | true => simp only [isLet, ha, Bool.true_and, if_true]; exact ih
      | false => simp only [isLet, ha, Bool.false_and, if_neg (show ¬ (false = true) by decide)]; simp
  rw [hd, List.all_reverse]
  have hid : ∀ l : List UInt8, (l.dropWhile (letters.contains ·)).all isLet = true ↔ l.all isLet = true := by
    intro l
    induction l with
    | nil => simp
    | cons a l ih =>
      simp only [List.dropWhile_cons]
      cases ha : letters.contains a with
      | true => simp only [if_true, List.all_cons, isLet, ha, Bool.true_and]; exact ih
      | false => simp [ha]
  rw [hid, List.all_reverse]
theorem isName_eq (s : List UInt8) : tPathIsName s = some (nameB s) := by
  unfold tPathIsName
  rw [bd_id]
  by_cases h0 : s = []
  · simp [h0, nameB]
  · simp only [h0, decide_false, Bool.not_false, if_true]
    by_cases hl : s.length ≤ 30
    · rw [if_pos (by omega)]
      have hpos : 1 ≤ s.length := by cases s with | nil => exact absurd rfl h0 | cons => simp
      have ht : tTrim s letters = some (Lib.trimS s letters) := by
        unfold tTrim
        have e1 : Nat.ble 1 s.length = true := Nat.ble_eq_true_of_le hpos
        have e2 : Nat.ble s.length (2 ^ 46) = true := Nat.ble_eq_true_of_le (by omega)
        rw [e1, e2]; rfl
      show bd (tTrim s letters) _ = _
      rw [ht, bd_s]
      by_cases ha : s.all isLet = true
      · rw [if_pos ((trimS_nil s).2 ha), contains_eq ha (by omega), bd_s]
        simp [nameB, h0, hl, ha]
      · rw [if_neg (fun e => ha ((trimS_nil s).1 e))]
        simp [nameB, ha]
    · rw [if_neg (by omega)]
      simp [nameB, hl]
theorem isLet_eq (b : UInt8) : isLet b = decide ((97 ≤ b.toNat ∧ b.toNat ≤ 122) ∨ (48 ≤ b.toNat ∧ b.toNat ≤ 57) ∨ b.toNat = 45 ∨ b.toNat = 95) := by
  have key : ∀ n, n < 256 → isLet (UInt8.ofNat n) = decide ((97 ≤ n ∧ n ≤ 122) ∨ (48 ≤ n ∧ n ≤ 57) ∨ n = 45 ∨ n = 95) := by decide +kernel
  have := key b.toNat b.toNat_lt
  simpa using this
theorem r08isName_eq (s : List UInt8) (hl : s.length < 2 ^ 60) : tR08IsName s = some (nameB s) := by
  obtain ⟨r, e, hr⟩ := Loop_all (body := tR08IsNameL1 s) s.length (fun k => isLet (s.getD k 0) = true) false (fun k hk _ => by
    have hc : ∀ (b : UInt8) (K : Bool → Option (Int ⊕ (Unit ⊕ Bool))), bd (
       if (97 : Int) ≤ (b.toNat : Int) then
       if (b.toNat : Int) ≤ 122 then
       some true
       else
       if (48 : Int) ≤ (b.toNat : Int) then
       if (b.toNat : Int) ≤ 57 then
       some true
       else
       if (b.toNat : Int) = 45 then
       some true
       else
       some (decide ((b.toNat : Int) = 95))
       else
       if (b.toNat : Int) = 45 then
       some true
       else
       some (decide ((b.toNat : Int) = 95))
       else
       if (48 : Int) ≤ (b.toNat : Int) then
       if (b.toNat : Int) ≤ 57 then
       some true
       else
       if (b.toNat : Int) = 45 then
       some true
       else
       some (decide ((b.toNat : Int) = 95))
       else
       if (b.toNat : Int) = 45 then
       some true
       else
       some (decide ((b.toNat : Int) = 95)) : Option Bool) K = K (isLet b) := by
      intro b K
      rw [isLet_eq]
      generalize b.toNat = n
      repeat' split
      all_goals rw [bd_s]
      all_goals congr 1
      all_goals first | (symm; apply decide_eq_true; omega) | (rw [decide_eq_decide]; omega)
    unfold tR08IsNameL1
    rw [if_pos (by omega), if_pos ⟨by omega, by omega⟩, hc, Int.toNat_natCast]
    constructor
    · intro h; rw [h]; simp only [Bool.not_true, Bool.false_eq_true, if_false]; rw [wrap64 (by omega) (by omega)]; rfl
    · intro h
      have h : isLet (s.getD k 0) = false := by simpa using h
      rw [h]; rfl) (by
    unfold tR08IsNameL1
    rw [if_neg (by omega)])
  unfold tR08IsName
  rw [e, bd_s]
  have hall : (∀ k, k < s.length → isLet (s.getD k 0) = true) ↔ s.all isLet = true := by
    rw [List.all_eq_true]
    constructor
    · intro h x hx
      obtain ⟨k, hk, rfl⟩ := List.mem_iff_getElem.1 hx
      have := h k hk
      rwa [List.getD_eq_getElem?_getD, List.getElem?_eq_getElem hk] at this
    · intro h k hk
      rw [List.getD_eq_getElem?_getD, List.getElem?_eq_getElem hk]
      exact h _ (List.getElem_mem hk)
  rcases hr with ⟨rfl, h⟩ | ⟨rfl, k, hk, h⟩
  · have h := hall.1 h
    simp only [bd_id]
    by_cases h0 : s = []
    · subst h0; simp [nameB]
    · have hpos : 1 ≤ s.length := by cases s with | nil => exact absurd rfl h0 | cons => simp
      rw [if_pos (by omega)]
      simp only [nameB, h0, ne_eq, not_false_eq_true, decide_true, h, Bool.and_true, Bool.true_and, Option.some.injEq, decide_eq_decide]
      omega
  · have : s.all isLet = false := by
      rw [Bool.eq_false_iff]; intro hh; exact h (hall.2 hh k hk)
    simp [nameB, this]
end Dn.S
