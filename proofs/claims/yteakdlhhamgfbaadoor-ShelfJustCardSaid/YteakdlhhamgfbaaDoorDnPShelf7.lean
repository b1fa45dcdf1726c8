import Derived.Test.YteakdlhhamgfbaaDoorDnPShelf6
/-
  Shelves: which may be, in words of their nodes; ShelfDrops. Conditions: none.
-/
open Go Dn
set_option linter.unusedVariables false
set_option linter.unusedSimpArgs false
namespace Dn.S
/-- a shelf that may be -/
structure ShelfOK (L : List ShelfNode) : Prop where
  len : L.length ≤ 200
  ord : OrdL L
  root : ∃ m ∈ L, m.Path = [47]
  flds : ∀ n ∈ L, n.Value.length ≤ 1000 ∧ 0 ≤ n.Version ∧ n.Version ≤ 1000000000 ∧ 0 ≤ n.Owner
  top : ∀ n ∈ L, n.Path = [47] → n.Owner = 0
  grown : ∀ n ∈ L, n.Path ≠ [47] → ∃ m ∈ L, m.Path = (parentP n.Path).1 ∧ m.Owner = 0
theorem ltL_nil (a : List (List UInt8)) : ltL a [] = false := by cases a <;> rfl
theorem names_root : namesL [47] = [] := by unfold namesL; simp
theorem parent_two {p : List UInt8} (h : rightB p = true) : (parentP p).2 = 0 ↔ p ≠ [47] := by
  unfold parentP
  rw [h]
  by_cases h0 : p = [47] <;> simp [h0]
theorem atI_is {l : List (List UInt8)} {p : List UInt8} (h : 0 ≤ atI l p) : ∃ k, ∃ hk : k < l.length, atI l p = (k : Int) ∧ l[k] = p := by
  unfold atI at h ⊢
  cases hf : l.findIdx? (fun x => decide (x = p)) with
  | none => rw [hf] at h; simp at h
  | some k =>
    rw [List.findIdx?_eq_some_iff_getElem] at hf
    obtain ⟨hk, hd, _⟩ := hf
    exact ⟨k, hk, rfl, by simpa using hd⟩
theorem filter_both {α : Type} (q : α → Bool) (l : List α) : (l.filter q).length + (l.filter fun n => !q n).length = l.length := by
  induction l with
  | nil => rfl
  | cons a l ih => cases h : q a <;> simp [h] <;> omega
theorem free_iff {L : List ShelfNode} (hs : OrdL L) {p : List UInt8} : freeB L p = true ↔ ∃ m ∈ L, m.Path = p ∧ m.Owner = 0 := by
  unfold freeB
  constructor
  · intro h
    simp only [Bool.and_eq_true, decide_eq_true_eq] at h
    obtain ⟨h0, h1⟩ := h
    have hlt := atI_lt h0
    rw [List.length_map] at hlt
    rw [List.getElem?_eq_getElem hlt] at h1
    simp only [decide_eq_true_eq] at h1
    obtain ⟨k, hk, e, hkp⟩ := atI_is h0
    rw [List.length_map] at hk
    refine ⟨_, List.getElem_mem hlt, ?_, h1⟩
    have : (atI (L.map (·.Path)) p).toNat = k := by rw [e]; rfl
    simp only [this]
    simpa using hkp
  · rintro ⟨m, hm, rfl, ho⟩
    obtain ⟨i, hi, rfl⟩ := List.mem_iff_getElem.1 hm
    have := find_there hs hi
    unfold findP at this
    rw [ord_right hs hi] at this
    by_cases h0 : 0 ≤ atI (L.map (·.Path)) (L[i]).Path
    · simp only [if_true, h0, Prod.mk.injEq, and_true] at this
      rw [this]
      simp [List.getElem?_eq_getElem hi, ho]
    · simp [h0] at this
theorem shelf_iff {L : List ShelfNode} : shelfB L = true ↔ ShelfOK L := by
  constructor
  · intro h
    have hs := shelfB_ord h
    unfold shelfB at h
    simp only [Bool.and_eq_true, List.all_eq_true, List.mem_range, decide_eq_true_eq] at h
    obtain ⟨⟨h1, h2⟩, h3, h4⟩ := h
    have hn : ∀ n ∈ L, n.Value.length ≤ 1000 ∧ 0 ≤ n.Version ∧ n.Version ≤ 1000000000 ∧ 0 ≤ n.Owner ∧ grownB L n = true := by
      intro n hn
      obtain ⟨k, hk, rfl⟩ := List.mem_iff_getElem.1 hn
      have := h4 k hk
      unfold okK at this
      rw [List.getElem?_eq_getElem hk] at this
      simp only [Bool.and_eq_true, decide_eq_true_eq] at this
      obtain ⟨⟨_, g1, g2, g3, g4, g5⟩, _⟩ := this
      exact ⟨g1, g2, g3, g4, g5⟩
    refine ⟨h2, hs, ?_, fun n h => ⟨(hn n h).1, (hn n h).2.1, (hn n h).2.2.1, (hn n h).2.2.2.1⟩, ?_, ?_⟩
    · cases L with
      | nil => simp at h1
      | cons a l => simp at h3; exact ⟨a, by simp, h3⟩
    · intro n h hr
      have hg := (hn n h).2.2.2.2
      unfold grownB at hg
      have : ¬ (parentP n.Path).2 = 0 := fun e => ((parent_two (hs.1 n h)).1 e) hr
      rw [if_neg this] at hg
      simpa using hg
    · intro n h hr
      have hg := (hn n h).2.2.2.2
      unfold grownB at hg
      rw [if_pos ((parent_two (hs.1 n h)).2 hr)] at hg
      exact (free_iff hs).1 hg
  · intro h
    have hs := h.ord
    obtain ⟨m, hm, hmr⟩ := h.root
    obtain ⟨i, hi, rfl⟩ := List.mem_iff_getElem.1 hm
    have hi0 : i = 0 := by
      by_cases h0 : i = 0
      · exact h0
      · have := ord_lt hs (show 0 < L.length by omega) hi (by omega)
        rw [hmr, names_root, ltL_nil] at this; cases this
    subst hi0
    have hhd : (L.map (·.Path)).head? = some [47] := by
      rw [List.head?_map, List.head?_eq_getElem?, List.getElem?_eq_getElem hi]
      simp [hmr]
    unfold shelfB
    rw [hhd]
    simp only [Bool.and_eq_true, List.all_eq_true, List.mem_range, decide_eq_true_eq]
    refine ⟨⟨by omega, h.len⟩, trivial, fun k hk => ?_⟩
    have hmem := List.getElem_mem hk
    obtain ⟨f1, f2, f3, f4⟩ := h.flds _ hmem
    have hg : grownB L L[k] = true := by
      unfold grownB
      by_cases hr : (L[k]).Path = [47]
      · rw [if_neg (fun e => ((parent_two (ord_right hs hk)).1 e) hr)]
        simp [h.top _ hmem hr]
      · rw [if_pos ((parent_two (ord_right hs hk)).2 hr)]
        exact (free_iff hs).2 (h.grown _ hmem hr)
    unfold okK
    rw [List.getElem?_eq_getElem hk]
    dsimp only
    rw [ord_right hs hk, decide_eq_true f1, decide_eq_true f2, decide_eq_true f3, decide_eq_true f4, hg]
    by_cases hk0 : k = 0
    · simp [hk0]
    · rw [List.getElem?_eq_getElem (show k - 1 < L.length by omega)]
      have := ord_lt hs (show k - 1 < L.length by omega) hk (by omega)
      simp [hk0, aheadB, ord_right hs (show k - 1 < L.length by omega), ord_right hs hk, this]
/-- what stays -/
def stayB (owner : Int) (n : ShelfNode) : Bool := !(decide (0 < owner) && decide (n.Owner = owner))
theorem filter_succ {α : Type} (q : α → Bool) {L : List α} {k : Nat} (hk : k < L.length) : (L.take (k + 1)).filter q = if q L[k] then (L.take k).filter q ++ [L[k]] else (L.take k).filter q := by
  rw [take_succ hk, List.filter_append]
  by_cases h : q L[k] = true
  · simp [h]
  · simp [h]
def dropP (L : List ShelfNode) (owner : Int) : List ShelfNode × List (List UInt8) := (L.filter (stayB owner), (L.filter fun n => !stayB owner n).map (·.Path))
theorem drop_eq (s : ShelfShelf) (owner : Int) (hl : s.L.length < 2 ^ 40) : tShelfDrop s owner = some (⟨(dropP s.L owner).1⟩, (dropP s.L owner).2) := by
  have hloop : Loop (tShelfDropL1 s owner) (([] : List (List UInt8)), ([] : List ShelfNode), 0) = some ((dropP s.L owner).2, (dropP s.L owner).1) := by
    refine Gives.eq (Gives.count (fun k => ((dropP (s.L.take k) owner).2, (dropP (s.L.take k) owner).1, (k : Int))) s.L.length (fun _ => True) rfl trivial (fun k hk _ => ?_) (fun _ => ?_))
    · have l1 : (dropP (s.L.take k) owner).1.length ≤ k := by
        unfold dropP
        have := List.length_filter_le (stayB owner) (s.L.take k)
        rw [List.length_take] at this; dsimp only; omega
      have l2 : (dropP (s.L.take k) owner).2.length ≤ k := by
        unfold dropP
        have := List.length_filter_le (fun n => !stayB owner n) (s.L.take k)
        rw [List.length_take] at this; dsimp only; rw [List.length_map]; omega
      have e1 := filter_succ (stayB owner) hk
      have e2 := filter_succ (fun n => !stayB owner n) hk
      unfold tShelfDropL1
      dsimp only
      rw [if_pos (by omega), ix_nat hk]
      have hw : (if (0 : Int) < owner then some (decide ((s.L[k]).Owner = owner)) else some false) = some (!stayB owner s.L[k]) := by
        unfold stayB
        by_cases h : (0 : Int) < owner <;> simp [h]
      rw [hw, bd_s, wrap64 (by omega) (by omega)]
      cases hst : stayB owner s.L[k] with
      | true =>
        rw [if_neg (by decide), if_pos (by simp only [List.length_cons, List.length_nil]; omega)]
        rw [hst] at e1 e2
        refine .mk ⟨?_, trivial⟩
        unfold dropP
        rw [e1, e2]; rfl
      | false =>
        rw [if_pos (by decide), if_pos (by simp only [List.length_cons, List.length_nil]; omega)]
        rw [hst] at e1 e2
        refine .mk ⟨?_, trivial⟩
        unfold dropP
        rw [e1, e2]
        simp
    · unfold tShelfDropL1
      dsimp only
      rw [if_neg (by omega), List.take_length]
      exact .mk rfl
  unfold tShelfDrop
  rw [hloop]; rfl
theorem ord_sub {L M : List ShelfNode} (h : M.Sublist L) (hs : OrdL L) : OrdL M := ⟨fun n hn => hs.1 n (h.subset hn), hs.2.sublist h⟩
theorem drop_ok {L : List ShelfNode} (h : ShelfOK L) (owner : Int) : ShelfOK (dropP L owner).1 := by
  have hsub : (L.filter (stayB owner)).Sublist L := List.filter_sublist
  have hst : ∀ n ∈ L, n.Owner = 0 → stayB owner n = true := by
    intro n _ h0
    unfold stayB
    rw [h0]
    by_cases hp : (0 : Int) < owner
    · simp [hp]; omega
    · simp [hp]
  refine ⟨Nat.le_trans hsub.length_le h.len, ord_sub hsub h.ord, ?_, fun n hn => h.flds n (hsub.subset hn), fun n hn => h.top n (hsub.subset hn), fun n hn hr => ?_⟩
  · obtain ⟨m, hm, hr⟩ := h.root
    exact ⟨m, List.mem_filter.2 ⟨hm, hst m hm (h.top m hm hr)⟩, hr⟩
  · obtain ⟨m, hm, h1, h2⟩ := h.grown n (hsub.subset hn) hr
    exact ⟨m, List.mem_filter.2 ⟨hm, hst m hm h2⟩, h1, h2⟩
theorem ord_same {L : List ShelfNode} (hs : OrdL L) {a b : ShelfNode} (ha : a ∈ L) (hb : b ∈ L) (h : a.Path = b.Path) : a = b := by
  obtain ⟨i, hi, rfl⟩ := List.mem_iff_getElem.1 ha
  obtain ⟨j, hj, rfl⟩ := List.mem_iff_getElem.1 hb
  have := ord_inj hs hi hj h
  subst this; rfl
/-- who has an owner has no kids -/
theorem kids_none {L : List ShelfNode} (h : ShelfOK L) {n : ShelfNode} (hn : n ∈ L) (ho : n.Owner ≠ 0) : kidsL L n.Path = [] := by
  unfold kidsL
  rw [List.map_eq_nil_iff, List.filter_eq_nil_iff]
  intro k hk hkid
  unfold kidB at hkid
  rw [decide_eq_true_eq] at hkid
  obtain ⟨m, hm, h1, h2⟩ := h.grown k hk ((parent_two (h.ord.1 k hk)).1 hkid.1)
  rw [hkid.2] at h1
  have := ord_same h.ord hm hn h1
  subst this
  exact ho h2
theorem filter_at {α : Type} (q : α → Bool) {L : List α} {k : Nat} (hk : k < L.length) (h : q L[k] = true) : ∃ hh : ((L.take k).filter q).length < (L.filter q).length, (L.filter q)[((L.take k).filter q).length] = L[k] := by
  have e : L.filter q = (L.take k).filter q ++ L[k] :: (L.drop (k + 1)).filter q := by
    conv => lhs; rw [← List.take_append_drop k L]
    rw [List.filter_append, List.drop_eq_getElem_cons hk, List.filter_cons, h]; rfl
  have hlt : ((L.take k).filter q).length < (L.filter q).length := by rw [e, List.length_append, List.length_cons]; omega
  refine ⟨hlt, ?_⟩
  have : (L.filter q)[((L.take k).filter q).length]? = some L[k] := by
    rw [e, List.getElem?_append_right (Nat.le_refl _), Nat.sub_self]; rfl
  rw [List.getElem?_eq_getElem hlt] at this
  exact Option.some.inj this
theorem shelfDrops_all (s : ShelfShelf) (owner : Int) : tL09ShelfDrops s owner = some true := by
  unfold tL09ShelfDrops
  obtain ⟨b, hb, hf⟩ := guard_eq s
  rw [hb, bd_s, evL09Alive]
  cases b with
  | false => rfl
  | true =>
    obtain ⟨hl, h1, h2, h3⟩ := hf rfl
    rw [if_neg (by decide), h1, bd_s, h2, bd_s]
    cases hr : shelfB s.L with
    | false => rfl
    | true =>
      have hs := h3 hr
      have hok := shelf_iff.1 hr
      have hok2 := drop_ok hok owner
      rw [bd_s, if_neg (by decide), drop_eq s owner (by omega), bd_s]
      dsimp only
      have l1 : (dropP s.L owner).1.length ≤ s.L.length := List.length_filter_le _ _
      have l2 : (dropP s.L owner).1.length + (dropP s.L owner).2.length = s.L.length := by
        unfold dropP
        dsimp only
        rw [List.length_map]
        exact filter_both (stayB owner) s.L
      rw [wrap64 (by omega) (by omega), decide_eq_true (by omega), if_neg (by decide), plain_eq ⟨(dropP s.L owner).1⟩ (by show (dropP s.L owner).1.length < _; omega), bd_s, r09right_eq ⟨(dropP s.L owner).1⟩ (by show (dropP s.L owner).1.length < _; omega), bd_s]
      have hb2 : shelfB (dropP s.L owner).1 = true := shelf_iff.2 hok2
      rw [hb2]
      rw [bd_s, if_neg (by decide)]
      have hloop : Loop (tL09ShelfDropsL1 s owner (⟨(dropP s.L owner).1⟩, (dropP s.L owner).2)) (0, 0) = some (.inl ()) := by
        refine Gives.eq (Gives.count (fun k => ((((s.L.take k).filter fun n => !stayB owner n).length : Int), (k : Int))) s.L.length (fun _ => True) rfl trivial (fun k hk _ => ?_) (fun _ => ?_))
        · have hkl := List.length_filter_le (fun n => !stayB owner n) (s.L.take k)
          rw [List.length_take] at hkl
          have e2 := filter_succ (fun n => !stayB owner n) hk
          unfold tL09ShelfDropsL1
          dsimp only
          rw [if_pos (by omega), ix_nat hk, get_eq (s := ⟨(dropP s.L owner).1⟩) hok2.ord (by show (dropP s.L owner).1.length < _; omega), bd_s, getP_e]
          have hfound : decide ((findP (dropP s.L owner).1 (s.L[k]).Path).2 = 0) = stayB owner s.L[k] := by
            cases hst : stayB owner s.L[k] with
            | true =>
              have hm : s.L[k] ∈ (dropP s.L owner).1 := List.mem_filter.2 ⟨List.getElem_mem hk, hst⟩
              obtain ⟨j, hj, hje⟩ := List.mem_iff_getElem.1 hm
              rw [← hje, find_there hok2.ord hj]; rfl
            | false =>
              rw [decide_eq_false]
              refine find_nope fun n hn he => ?_
              have hn' := List.mem_filter.1 hn
              have := ord_same hs hn'.1 (List.getElem_mem hk) he
              rw [this, hst] at hn'
              exact absurd hn'.2 (by decide)
          rw [hfound]
          have hw : (if owner ≤ 0 then some (!(decide (stayB owner s.L[k] = true))) else some (!(decide (stayB owner s.L[k] = (!decide ((s.L[k]).Owner = owner)))))) = some false := by
            unfold stayB
            by_cases h : owner ≤ 0
            · rw [if_pos h, decide_eq_false (show ¬ (0 : Int) < owner by omega)]; simp
            · rw [if_neg h, decide_eq_true (show (0 : Int) < owner by omega)]; simp
          rw [hw, bd_s, if_neg (by decide), wrap64 (x := (k : Int) + 1) (by omega) (by omega)]
          cases hst : stayB owner s.L[k] with
          | true =>
            rw [if_neg (by decide), bd_s]
            rw [hst] at e2
            exact .mk ⟨by rw [e2]; rfl, trivial⟩
          | false =>
            obtain ⟨hlt, hat⟩ := filter_at (fun n => !stayB owner n) hk (by rw [hst]; rfl)
            have hlg : (dropP s.L owner).2.length = (s.L.filter fun n => !stayB owner n).length := List.length_map ..
            have hgt : (dropP s.L owner).2[((s.L.take k).filter fun n => !stayB owner n).length]'(by omega) = (s.L[k]).Path := by
              have h5 : (dropP s.L owner).2[((s.L.take k).filter fun n => !stayB owner n).length]'(by omega) = ((s.L.filter fun n => !stayB owner n)[((s.L.take k).filter fun n => !stayB owner n).length]).Path := List.getElem_map ..
              rw [h5, hat]
            have hown : (s.L[k]).Owner ≠ 0 := by
              intro h0
              unfold stayB at hst
              rw [h0] at hst
              simp at hst
              omega
            have hlist : listP s.L (s.L[k]).Path = ([], 0) := by
              unfold listP
              rw [find_there hs hk, kids_none hok (List.getElem_mem hk) hown]; rfl
            rw [if_pos (by decide), if_neg (by omega), ix_nat (by omega), hgt]
            rw [decide_eq_true rfl, bd_s, if_neg (by decide), list_eq hs (by omega), bd_s, hlist]
            dsimp only
            rw [if_neg (by decide), bd_s, wrap64 (by omega) (by omega)]
            rw [hst] at e2
            refine .mk ⟨?_, trivial⟩
            rw [e2]
            simp
        · unfold tL09ShelfDropsL1
          dsimp only
          rw [if_neg (by omega)]
          exact .mk rfl
      rw [hloop, bd_s]
      simp [bd_s]
end Dn.S
