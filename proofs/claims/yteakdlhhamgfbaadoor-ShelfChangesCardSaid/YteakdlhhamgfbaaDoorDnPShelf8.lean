import Derived.Test.YteakdlhhamgfbaaDoorDnPShelf7
/-
  Shelves: what a change comes to. Conditions: none.
-/
open Go Dn
set_option linter.unusedVariables false
set_option linter.unusedSimpArgs false
namespace Dn.S
/-- what a path has -/
theorem get_mem {L : List ShelfNode} (hs : OrdL L) {n : ShelfNode} (h : n ∈ L) : getP L n.Path = (n, 0) := by
  obtain ⟨i, hi, rfl⟩ := List.mem_iff_getElem.1 h
  exact get_there hs hi
theorem get_not {L : List ShelfNode} {q : List UInt8} (h : ∀ n ∈ L, n.Path ≠ q) : getP L q = (noneN, if rightB q then 6 else 13) := by
  unfold getP findP
  cases hq : rightB q with
  | false => rfl
  | true =>
    have : atI (L.map (·.Path)) q = -1 := atI_none (fun x hx => by
      obtain ⟨n, hn, rfl⟩ := List.mem_map.1 hx
      exact h n hn)
    rw [this]; rfl
theorem get_cases {L : List ShelfNode} (hs : OrdL L) (q : List UInt8) : (∃ n ∈ L, n.Path = q ∧ getP L q = (n, 0)) ∨ ((∀ n ∈ L, n.Path ≠ q) ∧ getP L q = (noneN, if rightB q then 6 else 13)) := by
  by_cases h : ∃ n ∈ L, n.Path = q
  · obtain ⟨n, hn, rfl⟩ := h
    exact .inl ⟨n, hn, rfl, get_mem hs hn⟩
  · have h' : ∀ n ∈ L, n.Path ≠ q := fun n hn he => h ⟨n, hn, he⟩
    exact .inr ⟨h', get_not h'⟩
theorem get_congr {L M : List ShelfNode} (hs : OrdL L) (hm : OrdL M) {q : List UInt8} (h : ∀ n, n.Path = q → (n ∈ L ↔ n ∈ M)) : getP L q = getP M q := by
  rcases get_cases hs q with ⟨n, hn, hp, e⟩ | ⟨hn, e⟩
  · have := (h n hp).1 hn
    rw [e, ← hp, get_mem hm this]
  · rw [e, get_not fun n hn' he => hn n ((h n he).2 hn') he]
theorem find_two (L : List ShelfNode) (p : List UInt8) : (findP L p).2 = 0 ∨ (findP L p).2 = 6 ∨ (findP L p).2 = 13 := by
  unfold findP
  cases rightB p
  · simp
  · by_cases h : 0 ≤ atI (L.map (·.Path)) p <;> simp [h]
/-! ### a new one -/
def ltQ (p : List UInt8) (n : ShelfNode) : Bool := ltL (namesL n.Path) (namesL p)
theorem take_while {q : ShelfNode → Bool} {L : List ShelfNode} {i : Nat} (hi : i ≤ L.length) (h1 : ∀ k (hk : k < L.length), k < i → q L[k] = true) (h2 : ∀ k (hk : k < L.length), i ≤ k → q L[k] = false) :
    L.take i = L.takeWhile q ∧ L.drop i = L.dropWhile q := by
  induction L generalizing i with
  | nil => simp
  | cons a l ih =>
    cases i with
    | zero =>
      have := h2 0 (by simp) (Nat.le_refl _)
      simp only [List.getElem_cons_zero] at this
      simp [List.takeWhile, List.dropWhile, this]
    | succ i =>
      have := h1 0 (by simp) (by omega)
      simp only [List.getElem_cons_zero] at this
      obtain ⟨e1, e2⟩ := ih (i := i) (by simpa using hi) (fun k hk hki => by have := h1 (k + 1) (by simpa using hk) (by omega); rwa [List.getElem_cons_succ] at this) (fun k hk hki => by have := h2 (k + 1) (by simpa using hk) (by omega); rwa [List.getElem_cons_succ] at this)
      simp [List.takeWhile, List.dropWhile, this, e1, e2]
def insL (L : List ShelfNode) (n : ShelfNode) : List ShelfNode := L.takeWhile (ltQ n.Path) ++ n :: L.dropWhile (ltQ n.Path)
theorem ins_mem {L : List ShelfNode} {n m : ShelfNode} : m ∈ insL L n ↔ m = n ∨ m ∈ L := by
  unfold insL
  conv => rhs; rhs; rw [← List.takeWhile_append_dropWhile (p := ltQ n.Path) (l := L)]
  simp only [List.mem_append, List.mem_cons]
  constructor
  · rintro (h | h | h)
    · exact .inr (.inl h)
    · exact .inl h
    · exact .inr (.inr h)
  · rintro (h | h | h)
    · exact .inr (.inl h)
    · exact .inl h
    · exact .inr (.inr h)
theorem ins_len (L : List ShelfNode) (n : ShelfNode) : (insL L n).length = L.length + 1 := by
  unfold insL
  have := congrArg List.length (List.takeWhile_append_dropWhile (p := ltQ n.Path) (l := L))
  rw [List.length_append] at this
  rw [List.length_append, List.length_cons]; omega
theorem mem_takeW {α : Type} {q : α → Bool} {l : List α} {x : α} (h : x ∈ l.takeWhile q) : x ∈ l ∧ q x = true := by
  induction l with
  | nil => simp at h
  | cons a l ih =>
    cases ha : q a with
    | false => simp [List.takeWhile, ha] at h
    | true =>
      simp only [List.takeWhile, ha, List.mem_cons] at h
      rcases h with rfl | h
      · exact ⟨by simp, ha⟩
      · exact ⟨by simp [(ih h).1], (ih h).2⟩
theorem ins_ord {L : List ShelfNode} (hs : OrdL L) {n : ShelfNode} (hn : rightB n.Path = true) (hnew : ∀ m ∈ L, m.Path ≠ n.Path) : OrdL (insL L n) := by
  refine ⟨fun m hm => ?_, ?_⟩
  · rcases ins_mem.1 hm with rfl | h
    · exact hn
    · exact hs.1 m h
  have hpw : (L.takeWhile (ltQ n.Path) ++ L.dropWhile (ltQ n.Path)).Pairwise fun a b => ltL (namesL a.Path) (namesL b.Path) = true := by
    rw [List.takeWhile_append_dropWhile]; exact hs.2
  rw [List.pairwise_append] at hpw
  obtain ⟨p1, p2, p3⟩ := hpw
  have hdr : ∀ m ∈ L.dropWhile (ltQ n.Path), ltL (namesL n.Path) (namesL m.Path) = true := by
    intro m hm
    have hmL : m ∈ L := List.dropWhile_subset _ hm
    have hlt : ltQ n.Path m = false := by
      obtain ⟨i0, h1, h2, h3⟩ := split_at hs (namesL n.Path)
      have e := (take_while (q := ltQ n.Path) h1 h2 h3).2
      rw [← e] at hm
      obtain ⟨k, hk, rfl⟩ := List.mem_iff_getElem.1 hm
      rw [List.length_drop] at hk
      rw [List.getElem_drop]
      exact h3 (i0 + k) (by omega) (by omega)
    unfold ltQ at hlt
    rcases ltL_tri (namesL m.Path) (namesL n.Path) with h | h | h
    · rw [h] at hlt; cases hlt
    · exact absurd (names_inj (rightB_len (hs.1 m hmL)).2.1 (rightB_len hn).2.1 h) (hnew m hmL)
    · exact h
  unfold insL
  rw [List.pairwise_append]
  refine ⟨p1, List.pairwise_cons.2 ⟨hdr, p2⟩, ?_⟩
  intro a ha b hb
  have hlt : ltL (namesL a.Path) (namesL n.Path) = true := (mem_takeW ha).2
  rcases List.mem_cons.1 hb with rfl | hb
  · exact hlt
  · exact p3 a ha b hb
/-- why there is no new one -/
def createE (L : List ShelfNode) (p value : List UInt8) (owner : Int) : Int :=
  if rightB p then (if 0 ≤ atI (L.map (·.Path)) p then 7 else
    if (getP L (parentP p).1).2 = 0 then (if (getP L (parentP p).1).1.Owner = 0 then (if (1000 : Int) < (value.length : Int) then 5 else if owner < 0 then 1 else if (200 : Int) ≤ (L.length : Int) then 9 else 0) else 10) else 6) else 13
def createP (L : List ShelfNode) (p value : List UInt8) (owner : Int) : List ShelfNode × Int := if createE L p value owner = 0 then (insL L ⟨p, value, 0, owner⟩, 0) else (L, createE L p value owner)
theorem createF_eq {s : ShelfShelf} (hs : OrdL s.L) (hl : s.L.length < 2 ^ 40) {p : List UInt8} (value : List UInt8) (owner : Int) (hp : rightB p = true) :
    tShelfCreateF1 p (decide (0 ≤ atI (s.L.map (·.Path)) p)) s value owner = some (createE s.L p value owner) := by
  unfold tShelfCreateF1 createE
  rw [right_eq, bd_s, hp]
  simp only [Bool.not_true, Bool.false_eq_true, if_false, if_true]
  by_cases h0 : 0 ≤ atI (s.L.map (·.Path)) p
  · simp [h0]
  · rw [decide_eq_false h0, if_neg (by decide), if_neg h0, parent_eq, bd_s, get_eq hs hl, bd_s]
    show (if !decide ((getP s.L (parentP p).1).2 = 0) then _ else _) = _
    by_cases h1 : (getP s.L (parentP p).1).2 = 0
    · rw [decide_eq_true h1, if_neg (by decide), if_pos h1]
      show (if !decide ((getP s.L (parentP p).1).1.Owner = 0) then _ else _) = _
      by_cases h2 : (getP s.L (parentP p).1).1.Owner = 0
      · rw [decide_eq_true h2, if_neg (by decide), if_pos h2]
        by_cases h3 : (1000 : Int) < (value.length : Int)
        · simp [h3]
        · rw [if_neg h3, if_neg h3]
          by_cases h4 : owner < 0
          · simp [h4]
          · rw [if_neg h4, if_neg h4]
            by_cases h5 : (200 : Int) ≤ (s.L.length : Int)
            · simp [h5]
            · simp [h5]
      · rw [decide_eq_false h2, if_pos (by decide), if_neg h2]
    · rw [decide_eq_false h1, if_pos (by decide), if_neg h1]
theorem create_pos {L : List ShelfNode} {p value : List UInt8} {owner : Int} (h : createE L p value owner = 0) : rightB p = true ∧ ¬ 0 ≤ atI (L.map (·.Path)) p ∧ (getP L (parentP p).1).2 = 0 ∧ (getP L (parentP p).1).1.Owner = 0 ∧ value.length ≤ 1000 ∧ 0 ≤ owner ∧ L.length < 200 := by
  unfold createE at h
  cases hp : rightB p with
  | false => rw [hp] at h; simp at h
  | true =>
    rw [hp] at h
    by_cases h0 : 0 ≤ atI (L.map (·.Path)) p
    · simp [h0] at h
    by_cases h1 : (getP L (parentP p).1).2 = 0
    rotate_left
    · simp [h0, h1] at h
    by_cases h2 : (getP L (parentP p).1).1.Owner = 0
    rotate_left
    · simp [h0, h1, h2] at h
    simp only [if_true, h0, if_false, h1, h2] at h
    by_cases h3 : (1000 : Int) < (value.length : Int)
    · simp [h3] at h
    by_cases h4 : owner < 0
    · simp [h3, h4] at h
    by_cases h5 : (200 : Int) ≤ (L.length : Int)
    · simp [h3, h4, h5] at h
    exact ⟨rfl, h0, h1, h2, by omega, by omega, by omega⟩
theorem at_no {L : List ShelfNode} {p : List UInt8} (h : ¬ 0 ≤ atI (L.map (·.Path)) p) : ∀ n ∈ L, n.Path ≠ p := by
  intro n hn he
  apply h
  unfold atI
  cases hf : (L.map (·.Path)).findIdx? (fun x => decide (x = p)) with
  | some k => simp
  | none =>
    rw [List.findIdx?_eq_none_iff] at hf
    have := hf n.Path (List.mem_map.2 ⟨n, hn, rfl⟩)
    simp [he] at this
theorem create_eq {s : ShelfShelf} (hs : OrdL s.L) (hl : s.L.length < 2 ^ 38) (p value : List UInt8) (owner : Int) : tShelfCreate s p value owner = some (⟨(createP s.L p value owner).1⟩, (createP s.L p value owner).2) := by
  unfold tShelfCreate createP
  cases hp : rightB p with
  | false =>
    have he : createE s.L p value owner = 13 := by unfold createE; rw [hp]; rfl
    have hF : ∀ b, tShelfCreateF1 p b s value owner = some 13 := by
      intro b
      unfold tShelfCreateF1
      rw [right_eq, bd_s, hp]; rfl
    obtain ⟨rb, hrb⟩ : ∃ rb, tShelfShelfPlace s p = some rb := by
      rw [place_bs]
      obtain ⟨i0, h1, h2, h3⟩ := split_at hs (namesL p)
      refine ⟨_, bsearch_split (L := s.L) (t := p) (cmp := tShelfShelfPlaceF1) (g := fun n => if n.Path = p then 0 else if aheadB n.Path p then -1 else 1) (i0 := 0) (by omega) (fun n _ => placeF1_eq n p) (Nat.zero_le _) (fun k hk h => by omega) (fun k hk _ => ?_)⟩
      have : aheadB (s.L[k]).Path p = false := by unfold aheadB; rw [hp]; simp
      rw [this]; split <;> simp
    rw [hrb, bd_s, hF, bd_s, he]
    rfl
  | true =>
    obtain ⟨i0, h1, h2, h3, h4, h5⟩ := place_ok hs (by omega) hp
    obtain ⟨e1, e2⟩ := take_while (q := ltQ p) h1 h4 h5
    rw [h2, bd_s]
    dsimp only
    rw [createF_eq hs (by omega) value owner hp, bd_s]
    by_cases he : createE s.L p value owner = 0
    · rw [decide_eq_true he, if_neg (by decide), if_pos he]
      unfold tClone
      rw [if_pos (by omega), bd_s]
      unfold tInsert
      have := create_pos he
      rw [if_pos (by simp only [List.length_cons, List.length_nil]; refine ⟨by omega, ?_, by simp, by omega⟩; rw [Int.toNat_natCast]; exact h1), bd_s]
      simp only [Int.toNat_natCast]
      unfold insL
      rw [e1, e2]
      simp
    · rw [decide_eq_false he, if_pos (by decide), if_neg he]
/-! ### another value -/
def versE (L : List ShelfNode) (p : List UInt8) (version : Int) : Int := if (findP L p).2 = 0 ∧ version ≠ -1 ∧ version ≠ (getP L p).1.Version then 8 else (findP L p).2
theorem vers_eq {s : ShelfShelf} (hs : OrdL s.L) (hl : s.L.length < 2 ^ 40) (p : List UInt8) (version : Int) : tShelfShelfVersioned s p version = some ((findP s.L p).1, versE s.L p version) := by
  unfold tShelfShelfVersioned versE
  rw [find_eq hs hl, bd_s]
  by_cases h : (findP s.L p).2 = 0
  · obtain ⟨g1, g2⟩ := find_lt h
    rw [if_pos h]
    have hv : (getP s.L p).1 = s.L[(findP s.L p).1.toNat] := by unfold getP; rw [if_pos h, List.getElem?_eq_getElem g2]; rfl
    by_cases h1 : version = -1
    · simp [h1, h, bd_s]
    · rw [decide_eq_false h1, if_pos (by decide), ix_int g1 g2, bd_s, hv]
      by_cases h2 : version = (s.L[(findP s.L p).1.toNat]).Version
      · rw [decide_eq_true h2, if_neg (by decide), if_neg (by rintro ⟨_, _, h3⟩; exact h3 h2)]
      · rw [decide_eq_false h2, if_pos (by decide), if_pos ⟨h, h1, h2⟩]
  · rw [if_neg h, bd_s, if_neg (by decide), if_neg (fun h' => h h'.1)]
theorem vers_pos {L : List ShelfNode} {p : List UInt8} {version : Int} (h : versE L p version = 0) : (findP L p).2 = 0 := by
  unfold versE at h
  split at h
  · cases h
  · exact h
def setE (L : List ShelfNode) (p value : List UInt8) (version : Int) : Int := if versE L p version = 0 then (if (1000 : Int) < (value.length : Int) then 5 else if (1000000000 : Int) ≤ (getP L p).1.Version then 9 else 0) else versE L p version
def setN (x : ShelfNode) (value : List UInt8) : ShelfNode := ⟨x.Path, value, x.Version + 1, x.Owner⟩
def setP (L : List ShelfNode) (p value : List UInt8) (version : Int) : List ShelfNode × Int := if setE L p value version = 0 then (L.set (findP L p).1.toNat (setN (getP L p).1 value), 0) else (L, setE L p value version)
theorem get_at {L : List ShelfNode} {p : List UInt8} (h : (findP L p).2 = 0) : ∃ hi : (findP L p).1.toNat < L.length, (getP L p).1 = L[(findP L p).1.toNat] ∧ (getP L p).1.Path = p ∧ 0 ≤ (findP L p).1 := by
  obtain ⟨g1, g2⟩ := find_lt h
  have hv : (getP L p).1 = L[(findP L p).1.toNat] := by unfold getP; rw [if_pos h, List.getElem?_eq_getElem g2]; rfl
  refine ⟨g2, hv, ?_, g1⟩
  obtain ⟨_, i, hi, e, hp⟩ := find_at h
  rw [hv]
  have : (findP L p).1.toNat = i := by rw [e]; rfl
  simp only [this]; exact hp
theorem set_eq {s : ShelfShelf} (hok : ShelfOK s.L) (p value : List UInt8) (version : Int) : tShelfSet s p value version = some (⟨(setP s.L p value version).1⟩, (setP s.L p value version).2) := by
  have hl := hok.len
  have hs := hok.ord
  unfold tShelfSet setP setE
  rw [vers_eq hs (by omega), bd_s]
  dsimp only
  by_cases h : versE s.L p version = 0
  rotate_left
  · rw [decide_eq_false h, if_pos (by decide), if_neg h, if_neg h]
  obtain ⟨g2, hv, _, g1⟩ := get_at (vers_pos h)
  have hfl := hok.flds _ (List.getElem_mem g2)
  rw [decide_eq_true h, if_neg (by decide), if_pos h]
  by_cases h1 : (1000 : Int) < (value.length : Int)
  · simp [h1]
  · rw [if_neg h1, if_neg h1, ix_int g1 g2, hv]
    by_cases h2 : (1000000000 : Int) ≤ (s.L[(findP s.L p).1.toNat]).Version
    · rw [if_pos h2, if_pos h2]; rfl
    · rw [if_neg h2, if_neg h2]
      unfold tClone
      rw [if_pos (by omega), bd_s, ix_int g1 g2, ix_int g1 (by rw [List.length_set]; exact g2), ix_int g1 (by rw [List.length_set]; exact g2)]
      simp only [List.getElem_set_self, if_true, List.set_set]
      rw [wrap64 (by omega) (by omega)]; rfl
/-! ### one less -/
def delE (L : List ShelfNode) (p : List UInt8) (version : Int) : Int := if p = [47] then 13 else if versE L p version = 0 then (if kidsL L p = [] then 0 else 10) else versE L p version
def delP (L : List ShelfNode) (p : List UInt8) (version : Int) : List ShelfNode × Int := if delE L p version = 0 then (L.take (findP L p).1.toNat ++ L.drop ((findP L p).1.toNat + 1), 0) else (L, delE L p version)
/-- what is below a path has one of its kids above it -/
theorem below_kid {L : List ShelfNode} (hok : ShelfOK L) {p : List UInt8} (hp : rightB p = true) : ∀ (m : Nat) {n : ShelfNode}, n ∈ L → (namesL n.Path).length = m → belowL (namesL p) (namesL n.Path) = true → ∃ k ∈ L, kidB p k = true := by
  intro m
  induction m with
  | zero =>
    intro n hn hm hb
    unfold belowL at hb
    simp only [Bool.and_eq_true, decide_eq_true_eq] at hb
    omega
  | succ m ih =>
    intro n hn hm hb
    have hr := hok.ord.1 n hn
    by_cases h1 : (namesL n.Path).length = (namesL p).length + 1
    · exact ⟨n, hn, (kid_below hr hp).2 ⟨hb, h1⟩⟩
    · have hroot : n.Path ≠ [47] := by
        intro e
        rw [e, names_root] at hm; simp at hm
      obtain ⟨x, hx, hxp, _⟩ := hok.grown n hn hroot
      have hpar : (parentP n.Path).1 = madeL (namesL n.Path).dropLast := by
        unfold parentP
        rw [hr]; simp [hroot]
      have hall : (namesL n.Path).dropLast.all nameB = true := by
        obtain ⟨_, _, _, x4⟩ := rightB_len hr
        rw [List.all_eq_true] at x4 ⊢
        exact fun y hy => x4 y (List.mem_of_mem_take (by rw [List.dropLast_eq_take] at hy; exact hy))
      have hnx : namesL x.Path = (namesL n.Path).dropLast := by rw [hxp, hpar, (names_made hall).1]
      refine ih hx (by rw [hnx, List.length_dropLast]; omega) ?_
      unfold belowL at hb ⊢
      simp only [Bool.and_eq_true, decide_eq_true_eq] at hb ⊢
      rw [hnx, List.length_dropLast, List.dropLast_eq_take, List.take_take, Nat.min_eq_left (by omega)]
      exact ⟨by omega, hb.2⟩
theorem kids_next {L : List ShelfNode} (hok : ShelfOK L) {p : List UInt8} {i : Nat} (hi : i < L.length) (hp : (L[i]).Path = p) : kidsL L p = [] ↔ ∀ h : i + 1 < L.length, belowB p (L[i + 1]).Path = false := by
  have hs := hok.ord
  have hpr : rightB p = true := by rw [← hp]; exact ord_right hs hi
  constructor
  · intro hk h
    rw [Bool.eq_false_iff]
    intro hb
    unfold belowB at hb
    rw [hpr, ord_right hs h] at hb
    simp only [Bool.true_and] at hb
    obtain ⟨k, hkm, hkk⟩ := below_kid hok hpr _ (List.getElem_mem h) rfl hb
    have : k ∈ L.filter (kidB p) := List.mem_filter.2 ⟨hkm, hkk⟩
    unfold kidsL at hk
    rw [List.map_eq_nil_iff] at hk
    rw [hk] at this; simp at this
  · intro h
    by_cases h1 : i + 1 < L.length
    · rw [← kids_cut hs hi hp h1 (by omega) (h h1), kids_start hs hi hp]
    · have := kids_start hs hi hp
      rw [List.take_of_length_le (by omega)] at this
      exact this
theorem del_eq {s : ShelfShelf} (hok : ShelfOK s.L) (p : List UInt8) (version : Int) : tShelfDelete s p version = some (⟨(delP s.L p version).1⟩, (delP s.L p version).2) := by
  have hl := hok.len
  have hs := hok.ord
  unfold tShelfDelete delP delE
  rw [vers_eq hs (by omega), bd_s]
  dsimp only
  by_cases hp : p = [47]
  · rw [if_pos hp, if_pos hp]; rfl
  rw [if_neg hp, if_neg hp]
  by_cases h : versE s.L p version = 0
  rotate_left
  · rw [decide_eq_false h, if_pos (by decide), if_neg h, if_neg h]
  obtain ⟨g2, hv, hpa, g1⟩ := get_at (vers_pos h)
  rw [hv] at hpa
  have hkn := kids_next hok g2 hpa
  rw [decide_eq_true h, if_neg (by decide), if_pos h]
  obtain ⟨i, hie⟩ : ∃ i : Nat, (findP s.L p).1 = (i : Int) := ⟨(findP s.L p).1.toNat, by omega⟩
  have hin : (findP s.L p).1.toNat = i := by rw [hie]; rfl
  simp only [hin] at g2 hkn hpa ⊢
  rw [hie, wrap64 (by omega) (by omega), show (i : Int) + 1 = ((i + 1 : Nat) : Int) by omega]
  have hw : (if ((i + 1 : Nat) : Int) < (s.L.length : Int) then ix s.L ((i + 1 : Nat) : Int) fun y => bd (tPathBelow p y.Path) fun rA1 => some rA1 else some false) = some (!decide (kidsL s.L p = [])) := by
    by_cases h1 : i + 1 < s.L.length
    · rw [if_pos (by omega), ix_nat h1, below_eq, bd_s]
      cases hb : belowB p (s.L[i + 1]).Path with
      | true => rw [decide_eq_false (fun hk => by rw [hkn.1 hk h1] at hb; cases hb)]; rfl
      | false => rw [decide_eq_true (hkn.2 fun _ => hb)]; rfl
    · rw [if_neg (by omega), decide_eq_true (hkn.2 fun h' => absurd h' h1)]; rfl
  rw [hw, bd_s]
  by_cases hk : kidsL s.L p = []
  · rw [decide_eq_true hk, if_neg (by decide), if_pos hk]
    unfold tClone
    rw [if_pos (by omega), bd_s]
    unfold tDelete
    rw [if_pos ⟨by omega, by omega, by omega⟩, bd_s]
    simp
  · rw [decide_eq_false hk, if_pos (by decide), if_neg hk]; rfl
end Dn.S
