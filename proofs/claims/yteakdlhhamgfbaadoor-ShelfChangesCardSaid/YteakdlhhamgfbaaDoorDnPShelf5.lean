import Derived.Test.YteakdlhhamgfbaaDoorDnPShelf4
/-
  Shelves: kids; ShelfAsks. Conditions: none.
-/
open Go Dn
set_option linter.unusedVariables false
set_option linter.unusedSimpArgs false
namespace Dn.S
/-- whose kid a path is -/
theorem parent_iff {x p : List UInt8} (hx : rightB x = true) (hp : rightB p = true) : ((parentP x).2 = 0 ∧ (parentP x).1 = p) ↔ (belowL (namesL p) (namesL x) = true ∧ (namesL x).length = (namesL p).length + 1) := by
  obtain ⟨x1, x2, x3, x4⟩ := rightB_len hx
  obtain ⟨p1, p2, p3, p4⟩ := rightB_len hp
  unfold parentP
  rw [hx]
  by_cases h0 : x = [47]
  · have hn : (namesL x).length = 0 := (names_len hx).2 h0
    simp only [if_true, h0]
    constructor
    · rintro ⟨h, _⟩; exact absurd h (by decide)
    · rintro ⟨_, h⟩; rw [← h0, hn] at h; omega
  · have hn : ¬ (namesL x).length = 0 := fun e => h0 ((names_len hx).1 e)
    simp only [if_true, h0, if_false, true_and]
    have hall : (namesL x).dropLast.all nameB = true := by
      rw [List.all_eq_true] at x4 ⊢
      exact fun y hy => x4 y (List.mem_of_mem_take (by rw [List.dropLast_eq_take] at hy; exact hy))
    obtain ⟨g1, g2, _⟩ := names_made hall
    constructor
    · intro h
      have hnp : namesL p = (namesL x).dropLast := by rw [← h, g1]
      unfold belowL
      rw [hnp, List.length_dropLast, List.dropLast_eq_take]
      simp only [Bool.and_eq_true, decide_eq_true_eq]
      exact ⟨⟨by omega, trivial⟩, by omega⟩
    · rintro ⟨hb, hlen⟩
      unfold belowL at hb
      simp only [Bool.and_eq_true, decide_eq_true_eq] at hb
      have : (namesL x).dropLast = namesL p := by
        rw [List.dropLast_eq_take, hlen, Nat.add_sub_cancel]
        exact hb.2.symm
      rw [this, made_names p2]
/-- the last names of a path's kids -/
def kidB (p : List UInt8) (n : ShelfNode) : Bool := decide ((parentP n.Path).2 = 0 ∧ (parentP n.Path).1 = p)
def lastN (n : ShelfNode) : List UInt8 := (namesL n.Path).getLastD []
def kidsL (L : List ShelfNode) (p : List UInt8) : List (List UInt8) := (L.filter (kidB p)).map lastN
theorem kidsL_len (L : List ShelfNode) (p : List UInt8) : (kidsL L p).length ≤ L.length := by
  unfold kidsL; rw [List.length_map]; exact List.length_filter_le _ _
theorem kidsL_succ {L : List ShelfNode} {p : List UInt8} {k : Nat} (hk : k < L.length) : kidsL (L.take (k + 1)) p = if kidB p L[k] then kidsL (L.take k) p ++ [lastN L[k]] else kidsL (L.take k) p := by
  unfold kidsL
  rw [take_succ hk, List.filter_append, List.map_append]
  by_cases h : kidB p L[k] = true
  · simp [h]
  · simp [h]
theorem last_ix {α R : Type} {l : List α} (h : l ≠ []) (hl : l.length < 2 ^ 60) (d : α) (K : α → Option R) : ix l (IntKind.wrap .i64 ((l.length : Int) - 1)) K = K (l.getLastD d) := by
  have hpos : 0 < l.length := List.length_pos_iff.2 h
  rw [wrap64 (by omega) (by omega), show (l.length : Int) - 1 = ((l.length - 1 : Nat) : Int) by omega, ix_nat (by omega)]
  rw [List.getLastD_eq_getLast?, List.getLast?_eq_some_getLast h, Option.getD_some, List.getLast_eq_getElem]
theorem kids_eq {s : ShelfShelf} (hs : OrdL s.L) (hl : s.L.length < 2 ^ 40) (p : List UInt8) : tR09Kids (plainS s) p = some (kidsL s.L p) := by
  have hlen : (plainS s).L.length = s.L.length := List.length_map ..
  have hloop : Loop (tR09KidsL1 (plainS s) p) (([] : List (List UInt8)), 0) = some (kidsL s.L p) := by
    refine Gives.eq (Gives.count (fun k => (kidsL (s.L.take k) p, (k : Int))) s.L.length (fun _ => True) rfl trivial (fun k hk _ => ?_) (fun _ => ?_))
    · have hkp : k < (plainS s).L.length := by rw [hlen]; exact hk
      have hget : (plainS s).L[k] = toR s.L[k] := List.getElem_map ..
      have hr := hs.1 _ (List.getElem_mem hk)
      have hkl := kidsL_len (s.L.take k) p
      rw [List.length_take] at hkl
      unfold tR09KidsL1
      dsimp only
      rw [if_pos (by omega), ix_nat hkp, hget]
      simp only [toR_path]
      rw [r08parent_eq, bd_s]
      have hw : (if (parentP (s.L[k]).Path).2 = 0 then some (decide ((parentP (s.L[k]).Path).1 = p)) else some false) = some (kidB p s.L[k]) := by
        unfold kidB
        by_cases h : (parentP (s.L[k]).Path).2 = 0 <;> simp [h]
      show Gives (bd (if (parentP (s.L[k]).Path).2 = 0 then some (decide ((parentP (s.L[k]).Path).1 = p)) else some false) _) _
      rw [hw, bd_s, wrap64 (by omega) (by omega)]
      have hsu := kidsL_succ (p := p) hk
      cases hkb : kidB p s.L[k] with
      | false =>
        rw [if_neg (by decide), bd_s]
        rw [hkb, if_neg (by decide)] at hsu
        exact .mk ⟨by rw [hsu]; rfl, trivial⟩
      | true =>
        rw [hkb, if_pos rfl] at hsu
        have hne : namesL (s.L[k]).Path ≠ [] := by
          intro e
          have h0 := (names_len hr).1 (by rw [e]; rfl)
          unfold kidB parentP at hkb
          rw [hr, h0] at hkb
          simp at hkb
        have h8 := (rightB_len hr).2.2.1
        rw [if_pos rfl, ix_nat hkp, hget]
        simp only [toR_path]
        rw [r08names_eq, bd_s, hr]
        simp only [if_true]
        rw [last_ix hne (by omega) []]
        rw [if_pos (by simp only [List.length_cons, List.length_nil]; omega), bd_s]
        exact .mk ⟨by rw [hsu]; rfl, trivial⟩
    · unfold tR09KidsL1
      dsimp only
      rw [hlen, if_neg (by omega), List.take_length]
      exact .mk rfl
  unfold tR09Kids
  rw [hloop]; rfl
theorem kid_below {p : List UInt8} {n : ShelfNode} (hn : rightB n.Path = true) (hp : rightB p = true) : kidB p n = true ↔ (belowL (namesL p) (namesL n.Path) = true ∧ (namesL n.Path).length = (namesL p).length + 1) := by
  unfold kidB
  rw [decide_eq_true_eq]
  exact parent_iff hn hp
theorem ord_lt {L : List ShelfNode} (hs : OrdL L) {i j : Nat} (hi : i < L.length) (hj : j < L.length) (h : i < j) : ltL (namesL (L[i]).Path) (namesL (L[j]).Path) = true := List.pairwise_iff_getElem.1 hs.2 i j hi hj h
theorem ord_right {L : List ShelfNode} (hs : OrdL L) {i : Nat} (hi : i < L.length) : rightB (L[i]).Path = true := hs.1 _ (List.getElem_mem hi)
/-- none of those ahead are kids -/
theorem kids_head {L : List ShelfNode} (hs : OrdL L) {p : List UInt8} {i : Nat} (hi : i < L.length) (hp : (L[i]).Path = p) {j : Nat} (hj : j < L.length) (hji : j ≤ i) : kidB p L[j] = false := by
  rw [Bool.eq_false_iff]
  intro h
  have hpr : rightB p = true := by rw [← hp]; exact ord_right hs hi
  have h1 := below_lt ((kid_below (ord_right hs hj) hpr).1 h).1
  by_cases he : j = i
  · subst he
    rw [hp, ltL_irr] at h1; cases h1
  · have h2 := ord_lt hs hj hi (by omega)
    rw [hp] at h2
    have := ltL_trans h1 h2
    rw [ltL_irr] at this; cases this
theorem kids_start {L : List ShelfNode} (hs : OrdL L) {p : List UInt8} {i : Nat} (hi : i < L.length) (hp : (L[i]).Path = p) : kidsL (L.take (i + 1)) p = [] := by
  unfold kidsL
  rw [List.map_eq_nil_iff, List.filter_eq_nil_iff]
  intro n hn
  obtain ⟨j, hj, rfl⟩ := List.mem_iff_getElem.1 hn
  rw [List.length_take] at hj
  rw [List.getElem_take]
  rw [kids_head hs hi hp (by omega) (by omega)]
  simp
/-- none of those behind one that isn't below -/
theorem kids_tail {L : List ShelfNode} (hs : OrdL L) {p : List UInt8} {i k : Nat} (hi : i < L.length) (hp : (L[i]).Path = p) (hk : k < L.length) (hik : i < k) (hb : belowB p (L[k]).Path = false) {j : Nat} (hj : j < L.length) (hkj : k ≤ j) :
    belowB p (L[j]).Path = false := by
  rw [Bool.eq_false_iff]
  intro h
  have hpr : rightB p = true := by rw [← hp]; exact ord_right hs hi
  unfold belowB at h hb
  rw [hpr, ord_right hs hj] at h
  rw [hpr, ord_right hs hk] at hb
  simp only [Bool.true_and] at h hb
  by_cases he : j = k
  · subst he; rw [h] at hb; cases hb
  · have h1 := ord_lt hs hi hk hik
    rw [hp] at h1
    have := between h1 (ord_lt hs hk hj (by omega)) h
    rw [this] at hb; cases hb
theorem kids_cut {L : List ShelfNode} (hs : OrdL L) {p : List UInt8} {i k : Nat} (hi : i < L.length) (hp : (L[i]).Path = p) (hk : k < L.length) (hik : i < k) (hb : belowB p (L[k]).Path = false) : kidsL (L.take k) p = kidsL L p := by
  have hpr : rightB p = true := by rw [← hp]; exact ord_right hs hi
  have : (L.drop k).filter (kidB p) = [] := by
    rw [List.filter_eq_nil_iff]
    intro n hn hkid
    obtain ⟨j, hj, rfl⟩ := List.mem_iff_getElem.1 hn
    rw [List.length_drop] at hj
    rw [List.getElem_drop] at hkid
    have h1 := kids_tail hs hi hp hk hik hb (j := k + j) (by omega) (by omega)
    have h2 := ((kid_below (ord_right hs (by omega)) hpr).1 hkid).1
    unfold belowB at h1
    rw [hpr, ord_right hs (by omega), h2] at h1
    simp at h1
  unfold kidsL
  conv => rhs; rw [← List.take_append_drop k L]
  rw [List.filter_append, this, List.append_nil]
theorem find_at {L : List ShelfNode} {p : List UInt8} (h : (findP L p).2 = 0) : rightB p = true ∧ ∃ i, ∃ hi : i < L.length, (findP L p).1 = (i : Int) ∧ (L[i]).Path = p := by
  unfold findP at h ⊢
  cases hp : rightB p with
  | false => rw [hp] at h; simp at h
  | true =>
    rw [hp] at h
    by_cases h0 : 0 ≤ atI (L.map (·.Path)) p
    · simp only [if_true, h0]
      refine ⟨trivial, ?_⟩
      unfold atI at h0 ⊢
      cases hf : (L.map (·.Path)).findIdx? (fun x => decide (x = p)) with
      | none => rw [hf] at h0; simp at h0
      | some k =>
        have hf' := hf
        rw [List.findIdx?_eq_some_iff_getElem] at hf'
        obtain ⟨hk, hd, _⟩ := hf'
        exact ⟨k, by simpa using hk, rfl, by simpa using hd⟩
    · simp [h0] at h
/-- a node's kids, or why there are none -/
def listP (L : List ShelfNode) (p : List UInt8) : List (List UInt8) × Int := if (findP L p).2 = 0 then (kidsL L p, 0) else ([], (findP L p).2)
theorem getLastD_at {l : List (List UInt8)} {n : Nat} (h : l.length = n + 1) : l.getLastD [] = l[n]'(by omega) := by
  have hne : l ≠ [] := by intro e; rw [e] at h; simp at h
  rw [List.getLastD_eq_getLast?, List.getLast?_eq_some_getLast hne, Option.getD_some, List.getLast_eq_getElem]
  congr 1; omega
theorem list_eq {s : ShelfShelf} (hs : OrdL s.L) (hl : s.L.length < 2 ^ 40) (p : List UInt8) : tShelfList s p = some (listP s.L p) := by
  unfold tShelfList listP
  rw [find_eq hs hl, bd_s]
  by_cases h : (findP s.L p).2 = 0
  rotate_left
  · rw [decide_eq_false h, if_pos (by decide), if_neg h]
  obtain ⟨hp, i, hi, hfi, hip⟩ := find_at h
  obtain ⟨_, _, hp8, _⟩ := rightB_len hp
  have hw : IntKind.wrap .i64 ((findP s.L p).1 + 1) = ((i + 1 : Nat) : Int) := by rw [hfi, wrap64 (by omega) (by omega)]; omega
  rw [decide_eq_true h, if_neg (by decide), names_eq, bd_s, hp, hw, if_pos (by omega), if_pos h]
  simp only [if_true]
  have hD : List.drop (Int.toNat (IntKind.wrap .i64 ((findP s.L p).1 + 1))) (List.take (Int.toNat (s.L.length : Int)) s.L) = s.L.drop (i + 1) := by
    rw [hw]; simp
  have hloop : Loop (tShelfListL1 s p (findP s.L p) (namesL p, 0)) (([] : List (List UInt8)), 0) = some (kidsL s.L p) := by
    refine Gives.eq (Gives.count (fun k => (kidsL (s.L.take (i + 1 + k)) p, (k : Int))) (s.L.length - (i + 1)) (fun _ => True) (by rw [Nat.add_zero, kids_start hs hi hip]; rfl) trivial (fun k hk _ => ?_) (fun _ => ?_))
    · have hki : i + 1 + k < s.L.length := by omega
      have hr := ord_right hs hki
      have hkl := kidsL_len (s.L.take (i + 1 + k)) p
      rw [List.length_take] at hkl
      unfold tShelfListL1
      rw [hD]
      dsimp only
      have hkd : k < (s.L.drop (i + 1)).length := by rw [List.length_drop]; omega
      rw [if_pos (by omega), ix_nat hkd, List.getElem_drop, below_eq, bd_s]
      cases hb : belowB p (s.L[i + 1 + k]).Path with
      | false =>
        rw [if_pos (by decide)]
        exact .mk (kids_cut hs hi hip hki (by omega) hb)
      | true =>
        rw [if_neg (by decide), names_eq, bd_s, hr]
        simp only [if_true]
        obtain ⟨_, _, hr8, _⟩ := rightB_len hr
        rw [wrap64 (x := ((namesL p).length : Int) + 1) (by omega) (by omega), wrap64 (by omega) (by omega)]
        have hsu := kidsL_succ (p := p) hki
        have hkb := kid_below (n := s.L[i + 1 + k]) hr hp
        have hbl : belowL (namesL p) (namesL (s.L[i + 1 + k]).Path) = true := by
          unfold belowB at hb
          rw [hp, hr] at hb
          simpa using hb
        by_cases hlen : (namesL (s.L[i + 1 + k]).Path).length = (namesL p).length + 1
        · rw [if_pos (by omega), ix_nat (by omega), if_pos (by simp only [List.length_cons, List.length_nil]; omega), bd_s]
          rw [hkb.2 ⟨hbl, hlen⟩, if_pos rfl] at hsu
          refine .mk ⟨?_, trivial⟩
          rw [show i + 1 + (k + 1) = i + 1 + k + 1 by omega, hsu]
          unfold lastN
          rw [getLastD_at hlen]; rfl
        · rw [if_neg (by omega), bd_s]
          have : kidB p s.L[i + 1 + k] = false := by
            rw [Bool.eq_false_iff]; intro hh; exact hlen (hkb.1 hh).2
          rw [this, if_neg (by decide)] at hsu
          refine .mk ⟨?_, trivial⟩
          rw [show i + 1 + (k + 1) = i + 1 + k + 1 by omega, hsu]; rfl
    · unfold tShelfListL1
      rw [hD]
      dsimp only
      rw [List.length_drop, if_neg (by omega)]
      refine .mk ?_
      show kidsL (s.L.take (i + 1 + (s.L.length - (i + 1)))) p = _
      rw [List.take_of_length_le (by omega)]
  rw [hloop, bd_s]
theorem r09get_eq {s : ShelfShelf} (hl : s.L.length < 2 ^ 40) (p : List UInt8) : tR09Get (plainS s) p = some (toR (getP s.L p).1, (getP s.L p).2) := by
  have hl2 : (plainS s).L.length < 2 ^ 40 := by show (s.L.map toR).length < _; rw [List.length_map]; exact hl
  unfold tR09Get getP findP
  rw [r08right_eq, bd_s]
  cases hp : rightB p with
  | false => rfl
  | true =>
    rw [at_eq _ _ hl2, bd_s]
    have hpp : (plainS s).L.map (·.Path) = s.L.map (·.Path) := plain_paths s.L
    rw [hpp]
    simp only [Bool.not_true, Bool.false_eq_true, if_false, if_true]
    by_cases h0 : 0 ≤ atI (s.L.map (·.Path)) p
    · have hlt := atI_lt h0
      rw [List.length_map] at hlt
      rw [if_neg (by omega)]
      simp only [h0, if_true]
      have hlt2 : (atI (s.L.map (·.Path)) p).toNat < (plainS s).L.length := by show _ < (s.L.map toR).length; rw [List.length_map]; exact hlt
      rw [ix_int h0 hlt2, List.getElem?_eq_getElem hlt]
      have hg : (plainS s).L[(atI (s.L.map (·.Path)) p).toNat] = toR s.L[(atI (s.L.map (·.Path)) p).toNat] := List.getElem_map ..
      rw [hg]; rfl
    · rw [if_pos (by omega)]
      simp only [h0, if_false]
      rfl
theorem getP_e (L : List ShelfNode) (p : List UInt8) : (getP L p).2 = (findP L p).2 := by
  unfold getP
  by_cases h : (findP L p).2 = 0 <;> simp [h]
theorem r09list_eq {s : ShelfShelf} (hs : OrdL s.L) (hl : s.L.length < 2 ^ 40) (p : List UInt8) : tR09List (plainS s) p = some (listP s.L p) := by
  unfold tR09List listP
  rw [r09get_eq hl, bd_s]
  show (if !decide ((getP s.L p).2 = 0) then _ else _) = _
  rw [getP_e]
  by_cases h : (findP s.L p).2 = 0
  · rw [decide_eq_true h, if_neg (by decide), kids_eq hs hl, bd_s, if_pos h]
  · rw [decide_eq_false h, if_pos (by decide), if_neg h]
theorem listP_len (L : List ShelfNode) (p : List UInt8) : (listP L p).1.length ≤ L.length := by
  unfold listP
  by_cases h : (findP L p).2 = 0
  · simp only [h, if_true]; exact kidsL_len L p
  · simp [h]
/-- what stands ahead of each law of shelves -/
theorem guard_eq (s : ShelfShelf) : ∃ b, tL09Few s = some b ∧ (b = true → s.L.length ≤ 60 ∧ tL09Plain s = some (plainS s) ∧ tR09Right (plainS s) = some (shelfB s.L) ∧ (shelfB s.L = true → OrdL s.L)) := by
  obtain ⟨b, hb, hf⟩ := few_eq s
  refine ⟨b, hb, fun h => ?_⟩
  have hl := hf h
  exact ⟨hl, plain_eq s (by omega), r09right_eq s (by omega), shelfB_ord⟩
theorem shelfAsks_all (s : ShelfShelf) (p : List UInt8) : tL09ShelfAsks s p = some true := by
  unfold tL09ShelfAsks
  obtain ⟨b, hb, hf⟩ := guard_eq s
  rw [hb, bd_s, evL09Alive]
  cases b with
  | false => rfl
  | true =>
    obtain ⟨hl, h1, h2, h3⟩ := hf rfl
    rw [if_neg (by decide), h1, bd_s, h2, bd_s]
    cases hr : shelfB s.L with
    | false => rfl
    | true =>
      have hs := h3 hr
      rw [if_neg (by decide), bd_s]
      by_cases hp : (1100 : Int) < (p.length : Int)
      · rw [decide_eq_true hp]; rfl
      · have := listP_len s.L p
        rw [decide_eq_false hp, if_neg (by decide), get_eq hs (by omega), bd_s, bd_s, r09get_eq (by omega), bd_s, list_eq hs (by omega), bd_s, bd_s, r09list_eq hs (by omega), bd_s]
        simp [bd_s, strings_eq _ _ (show (listP s.L p).1.length < 2 ^ 60 by omega)]
end Dn.S
