import Derived.Test.YteakdlhhamgfbaaDoorDnPShelf5
/-
  Shelves: kids, and what an owner had; ShelfKids, ShelfDrops. Conditions: none.
-/
open Go Dn
set_option linter.unusedVariables false
set_option linter.unusedSimpArgs false
namespace Dn.S
/-- a node that is there is found -/
theorem ord_inj {L : List ShelfNode} (hs : OrdL L) {i j : Nat} (hi : i < L.length) (hj : j < L.length) (h : (L[i]).Path = (L[j]).Path) : i = j := by
  rcases Nat.lt_trichotomy i j with h1 | h1 | h1
  · have := ord_lt hs hi hj h1
    rw [h, ltL_irr] at this; cases this
  · exact h1
  · have := ord_lt hs hj hi h1
    rw [h, ltL_irr] at this; cases this
theorem find_there {L : List ShelfNode} (hs : OrdL L) {i : Nat} (hi : i < L.length) : findP L (L[i]).Path = ((i : Int), 0) := by
  unfold findP
  have hat : atI (L.map (·.Path)) (L[i]).Path = (i : Int) := atI_some (by simpa using hi) (by simp) (fun j hj => by
    simp only [List.getElem_map]
    intro h
    have := ord_inj hs (by omega) hi h
    omega)
  rw [ord_right hs hi, hat]
  simp
theorem find_nope {L : List ShelfNode} {p : List UInt8} (h : ∀ n ∈ L, n.Path ≠ p) : (findP L p).2 ≠ 0 := by
  intro h0
  obtain ⟨_, i, hi, _, hip⟩ := find_at h0
  exact h _ (List.getElem_mem hi) hip
theorem get_there {L : List ShelfNode} (hs : OrdL L) {i : Nat} (hi : i < L.length) : getP L (L[i]).Path = (L[i], 0) := by
  unfold getP
  rw [find_there hs hi]
  simp [List.getElem?_eq_getElem hi]
/-- the number of a path's kids -/
theorem kidsL_count (L : List ShelfNode) (p : List UInt8) : (kidsL L p).length = L.countP (kidB p) := by
  unfold kidsL; rw [List.length_map, List.countP_eq_length_filter]
/-- a kid's path is its parent's, joined with its last name -/
theorem kid_join {n : ShelfNode} {p : List UInt8} (hn : rightB n.Path = true) (hp : rightB p = true) (h : kidB p n = true) : nameB (lastN n) = true ∧ joinL p (lastN n) = n.Path := by
  obtain ⟨h1, h2⟩ := (kid_below hn hp).1 h
  obtain ⟨n1, n2, n3, n4⟩ := rightB_len hn
  have hx : nameB (lastN n) = true := by
    unfold lastN
    rw [getLastD_at h2]
    exact List.all_eq_true.1 n4 _ (List.getElem_mem _)
  refine ⟨hx, ?_⟩
  obtain ⟨j1, j2, j3, j4⟩ := join_names hp hx
  refine names_inj j2 n2 ?_
  rw [j1]
  unfold belowL at h1
  simp only [Bool.and_eq_true, decide_eq_true_eq] at h1
  unfold lastN
  rw [getLastD_at h2]
  have : namesL n.Path = (namesL n.Path).take (namesL p).length ++ [(namesL n.Path)[(namesL p).length]'(by omega)] := by
    conv => lhs; rw [← List.take_append_drop (namesL p).length (namesL n.Path)]
    congr 1
    rw [List.drop_eq_getElem_cons (by omega), List.drop_of_length_le (by omega)]
  conv => rhs; rw [this]
  rw [← h1.2]
/-- kids in order -/
theorem kids_pair {L : List ShelfNode} (hs : OrdL L) {p : List UInt8} (hp : rightB p = true) : (kidsL L p).Pairwise fun a b => Op.bytesLess a b = true := by
  unfold kidsL
  rw [List.pairwise_map, List.pairwise_filter]
  refine List.Pairwise.imp_of_mem ?_ hs.2
  intro a b ha hb hab h1 h2
  obtain ⟨a1, a2⟩ := (kid_below (hs.1 a ha) hp).1 h1
  obtain ⟨b1, b2⟩ := (kid_below (hs.1 b hb) hp).1 h2
  unfold belowL at a1 b1
  simp only [Bool.and_eq_true, decide_eq_true_eq] at a1 b1
  have split : ∀ (l : List (List UInt8)) (m : Nat) (h : l.length = m + 1), l = l.take m ++ [l[m]'(by omega)] := by
    intro l m h
    conv => lhs; rw [← List.take_append_drop m l]
    congr 1
    rw [List.drop_eq_getElem_cons (by omega), List.drop_of_length_le (by omega)]
  rw [split _ _ a2, split _ _ b2, ← a1.2, ← b1.2, ltL_app] at hab
  unfold lastN
  rw [getLastD_at a2, getLastD_at b2]
  simpa [ltL] using hab
theorem shelfKids_all (s : ShelfShelf) (p : List UInt8) : tL09ShelfKids s p = some true := by
  unfold tL09ShelfKids
  obtain ⟨b, hb, hf⟩ := guard_eq s
  rw [hb, bd_s, evL09Alive]
  cases b with
  | false => rfl
  | true =>
    obtain ⟨hl, h1, h2, h3⟩ := hf rfl
    rw [if_neg (by decide), h1, bd_s, h2, bd_s]
    cases hr : shelfB s.L with
    | false => rfl
    | true =>
      have hs := h3 hr
      rw [if_neg (by decide), bd_s]
      by_cases hp : (1100 : Int) < (p.length : Int)
      · rw [decide_eq_true hp]; rfl
      · rw [decide_eq_false hp, if_neg (by decide), list_eq hs (by omega), bd_s, get_eq hs (by omega), bd_s, getP_e]
        by_cases h0 : (findP s.L p).2 = 0
        rotate_left
        · have hl0 : listP s.L p = ([], (findP s.L p).2) := by unfold listP; rw [if_neg h0]
          rw [hl0]
          simp [bd_s, h0]
        have hl0 : listP s.L p = (kidsL s.L p, 0) := by unfold listP; rw [if_pos h0]
        obtain ⟨hpr, i, hi, hfi, hip⟩ := find_at h0
        obtain ⟨pl1, _, pl3, _⟩ := rightB_len hpr
        rw [hl0]
        dsimp only
        rw [h0, decide_eq_true rfl, if_neg (by decide), if_neg (by decide)]
        -- how many
        have hcount : Loop (tL09ShelfKidsL1 s p) (0, 0) = some ((kidsL s.L p).length : Int) := by
          refine Gives.eq (Gives.count (fun k => (((kidsL (s.L.take k) p).length : Int), (k : Int))) s.L.length (fun _ => True) rfl trivial (fun k hk _ => ?_) (fun _ => ?_))
          · have hkl := kidsL_len (s.L.take k) p
            rw [List.length_take] at hkl
            unfold tL09ShelfKidsL1
            dsimp only
            rw [if_pos (by omega), ix_nat hk, parent_eq, bd_s]
            have hw : (if (parentP (s.L[k]).Path).2 = 0 then some (decide ((parentP (s.L[k]).Path).1 = p)) else some false) = some (kidB p s.L[k]) := by
              unfold kidB
              by_cases h : (parentP (s.L[k]).Path).2 = 0 <;> simp [h]
            show Gives (bd (if (parentP (s.L[k]).Path).2 = 0 then some (decide ((parentP (s.L[k]).Path).1 = p)) else some false) _) _
            rw [hw, bd_s, wrap64 (x := (k : Int) + 1) (by omega) (by omega), wrap64 (by omega) (by omega)]
            have hsu := kidsL_succ (p := p) hk
            cases hkb : kidB p s.L[k] with
            | false =>
              rw [hkb, if_neg (by decide)] at hsu
              rw [if_neg (by decide), bd_s]
              exact .mk ⟨by rw [hsu]; rfl, trivial⟩
            | true =>
              rw [hkb, if_pos rfl] at hsu
              rw [if_pos rfl, bd_s]
              refine .mk ⟨?_, trivial⟩
              rw [hsu, List.length_append]
              rfl
          · unfold tL09ShelfKidsL1
            dsimp only
            rw [if_neg (by omega), List.take_length]
            exact .mk rfl
        have hlen := kidsL_len s.L p
        -- each kid is there, in order
        have hord := kids_pair hs hpr
        have hmem : ∀ x ∈ kidsL s.L p, nameB x = true ∧ ∃ k, ∃ hk : k < s.L.length, joinL p x = (s.L[k]).Path := by
          intro x hx
          unfold kidsL at hx
          obtain ⟨n, hn, rfl⟩ := List.mem_map.1 hx
          rw [List.mem_filter] at hn
          obtain ⟨g1, g2⟩ := kid_join (hs.1 n hn.1) hpr hn.2
          obtain ⟨k, hk, rfl⟩ := List.mem_iff_getElem.1 hn.1
          exact ⟨g1, k, hk, g2⟩
        have hloop : Loop (tL09ShelfKidsL2 s p (kidsL s.L p, 0)) 0 = some (.inl ()) := by
          refine Gives.eq (Gives.count (fun k => (k : Int)) (kidsL s.L p).length (fun _ => True) rfl trivial (fun k hk _ => ?_) (fun _ => ?_))
          · obtain ⟨hx, j, hj, hjp⟩ := hmem _ (List.getElem_mem hk)
            have hxl := nameB_len hx
            unfold tL09ShelfKidsL2
            dsimp only
            rw [if_pos (by omega), ix_nat hk, join_eq _ _ (by omega) (by omega), bd_s]
            have hjr : rightB (joinL p (kidsL s.L p)[k]) = true := by rw [hjp]; exact ord_right hs hj
            have e1 : ((kidsL s.L p)[k]).length ≤ 1000 := by omega
            simp only [hjr, hpr, hx, Bool.and_self, Bool.and_true, if_true]
            rw [get_eq hs (by omega), bd_s, hjp, get_there hs hj]
            simp only [decide_true, Bool.not_true, Bool.false_eq_true, if_false]
            by_cases hk0 : k = 0
            · subst hk0
              rw [if_neg (by decide), bd_s, if_neg (by decide), wrap64 (by decide) (by decide)]
              exact .mk ⟨rfl, trivial⟩
            · have hk1 : k - 1 < (kidsL s.L p).length := by omega
              rw [if_pos (by omega), wrap64 (x := (k : Int) - 1) (by omega) (by omega), show (k : Int) - 1 = ((k - 1 : Nat) : Int) by omega, ix_nat hk1, ix_nat hk, bd_s]
              have := List.pairwise_iff_getElem.1 hord (k - 1) k hk1 hk (by omega)
              rw [this, wrap64 (by omega) (by omega)]
              exact .mk ⟨by simp, trivial⟩
          · unfold tL09ShelfKidsL2
            dsimp only
            rw [if_neg (by omega)]
            exact .mk rfl
        rw [hcount, bd_s, hloop, bd_s]
        simp [bd_s]
end Dn.S
