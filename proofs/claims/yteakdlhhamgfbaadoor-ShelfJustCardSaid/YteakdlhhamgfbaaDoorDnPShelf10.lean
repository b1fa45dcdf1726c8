import Derived.Test.YteakdlhhamgfbaaDoorDnPShelf9
/-
  Shelves: a change changes just its node; ShelfJust. Conditions: none.
-/
open Go Dn
set_option linter.unusedVariables false
set_option linter.unusedSimpArgs false
namespace Dn.S
/-! ### a new one -/
theorem create_new {L : List ShelfNode} {p value : List UInt8} {owner : Int} (h : createE L p value owner = 0) : rightB p = true ∧ ∀ m ∈ L, m.Path ≠ p :=
  ⟨(create_pos h).1, at_no (create_pos h).2.1⟩
theorem createP_ok {L : List ShelfNode} (hok : ShelfOK L) (p value : List UInt8) (owner : Int) : ShelfOK (createP L p value owner).1 := by
  unfold createP
  by_cases h : createE L p value owner = 0
  rotate_left
  · rw [if_neg h]; exact hok
  rw [if_pos h]
  obtain ⟨c1, c2, c3, c4, c5, c6, c7⟩ := create_pos h
  have hnew := at_no c2
  have hmem : ∀ m, m ∈ insL L ⟨p, value, 0, owner⟩ ↔ m = ⟨p, value, 0, owner⟩ ∨ m ∈ L := fun m => ins_mem
  have hroot : p ≠ [47] := fun e => by
    obtain ⟨m, hm, hr⟩ := hok.root
    exact hnew m hm (by rw [hr, e])
  refine ⟨by show (insL _ _).length ≤ 200; rw [ins_len]; omega, ins_ord hok.ord c1 hnew, ?_, ?_, ?_, ?_⟩
  · obtain ⟨m, hm, hr⟩ := hok.root
    exact ⟨m, (hmem m).2 (.inr hm), hr⟩
  · intro n hn
    rcases (hmem n).1 hn with rfl | hn
    · exact ⟨c5, by simp, by simp, c6⟩
    · exact hok.flds n hn
  · intro n hn hr
    rcases (hmem n).1 hn with rfl | hn
    · exact absurd hr hroot
    · exact hok.top n hn hr
  · intro n hn hr
    rcases (hmem n).1 hn with rfl | hn
    · have h1 := c3
      rw [getP_e] at h1
      obtain ⟨g1, g2, g3, _⟩ := get_at h1
      refine ⟨(getP L (parentP p).1).1, (hmem _).2 (.inr (by rw [g2]; exact List.getElem_mem g1)), g3, c4⟩
    · obtain ⟨m, hm, h1, h2⟩ := hok.grown n hn hr
      exact ⟨m, (hmem m).2 (.inr hm), h1, h2⟩
/-! ### another value -/
theorem set_mem {L : List ShelfNode} (hs : OrdL L) {i : Nat} (hi : i < L.length) {y : ShelfNode} (hy : y.Path = (L[i]).Path) (n : ShelfNode) : n ∈ L.set i y ↔ n = y ∨ (n ∈ L ∧ n.Path ≠ y.Path) := by
  constructor
  · intro h
    obtain ⟨j, hj, rfl⟩ := List.mem_iff_getElem.1 h
    rw [List.length_set] at hj
    rw [List.getElem_set]
    by_cases hij : i = j
    · subst hij; simp
    · simp only [hij, if_false]
      refine .inr ⟨List.getElem_mem hj, fun e => hij ?_⟩
      rw [hy] at e
      exact (ord_inj hs hj hi e).symm
  · rintro (rfl | ⟨h, hne⟩)
    · exact List.mem_iff_getElem.2 ⟨i, by rw [List.length_set]; exact hi, by simp⟩
    · obtain ⟨j, hj, rfl⟩ := List.mem_iff_getElem.1 h
      have hij : ¬ i = j := fun e => by subst e; exact hne hy.symm
      exact List.mem_iff_getElem.2 ⟨j, by rw [List.length_set]; exact hj, by rw [List.getElem_set]; simp [hij]⟩
theorem set_paths {L : List ShelfNode} {i : Nat} (hi : i < L.length) {y : ShelfNode} (hy : y.Path = (L[i]).Path) : (L.set i y).map (·.Path) = L.map (·.Path) := by
  rw [List.map_set]
  refine List.ext_getElem (by simp) fun k h1 h2 => ?_
  rw [List.getElem_set]
  by_cases hik : i = k
  · subst hik; simp [hy]
  · simp [hik]
theorem ord_paths {L M : List ShelfNode} (h : M.map (·.Path) = L.map (·.Path)) (hs : OrdL L) : OrdL M := by
  constructor
  · intro n hn
    have : n.Path ∈ L.map (·.Path) := by rw [← h]; exact List.mem_map.2 ⟨n, hn, rfl⟩
    obtain ⟨m, hm, e⟩ := List.mem_map.1 this
    rw [← e]; exact hs.1 m hm
  · have h1 : (L.map (·.Path)).Pairwise fun a b => ltL (namesL a) (namesL b) = true := List.pairwise_map.2 hs.2
    rw [← h] at h1
    exact List.pairwise_map.1 h1
theorem set_pos {L : List ShelfNode} {p value : List UInt8} {version : Int} (h : setE L p value version = 0) : (findP L p).2 = 0 ∧ value.length ≤ 1000 ∧ (getP L p).1.Version < 1000000000 := by
  unfold setE at h
  by_cases h0 : versE L p version = 0
  · rw [if_pos h0] at h
    by_cases h1 : (1000 : Int) < (value.length : Int)
    · simp [h1] at h
    · rw [if_neg h1] at h
      by_cases h2 : (1000000000 : Int) ≤ (getP L p).1.Version
      · simp [h2] at h
      · exact ⟨vers_pos h0, by omega, by omega⟩
  · rw [if_neg h0] at h; exact absurd h h0
theorem setP_ok {L : List ShelfNode} (hok : ShelfOK L) (p value : List UInt8) (version : Int) : ShelfOK (setP L p value version).1 := by
  unfold setP
  by_cases h : setE L p value version = 0
  rotate_left
  · rw [if_neg h]; exact hok
  rw [if_pos h]
  obtain ⟨c1, c2, c3⟩ := set_pos h
  obtain ⟨g1, g2, g3, _⟩ := get_at c1
  have hx : (getP L p).1 ∈ L := by rw [g2]; exact List.getElem_mem g1
  have hy : (setN (getP L p).1 value).Path = (L[(findP L p).1.toNat]).Path := by rw [← g2]; rfl
  have hmem := set_mem hok.ord g1 hy
  have hold : ∀ m ∈ L, ∃ m' ∈ L.set (findP L p).1.toNat (setN (getP L p).1 value), m'.Path = m.Path ∧ m'.Owner = m.Owner := by
    intro m hm
    by_cases he : m.Path = (setN (getP L p).1 value).Path
    · have := ord_same hok.ord hm hx he
      subst this
      exact ⟨_, (hmem _).2 (.inl rfl), rfl, rfl⟩
    · exact ⟨m, (hmem m).2 (.inr ⟨hm, he⟩), rfl, rfl⟩
  have hfl := hok.flds _ hx
  have hnew : ∀ n ∈ L.set (findP L p).1.toNat (setN (getP L p).1 value), ∃ m ∈ L, n.Path = m.Path ∧ n.Owner = m.Owner := by
    intro n hn
    rcases (hmem n).1 hn with rfl | ⟨hn, _⟩
    · exact ⟨_, hx, rfl, rfl⟩
    · exact ⟨n, hn, rfl, rfl⟩
  refine ⟨by show (L.set _ _).length ≤ 200; rw [List.length_set]; exact hok.len, ord_paths (set_paths g1 hy) hok.ord, ?_, ?_, ?_, ?_⟩
  · obtain ⟨m, hm, hr⟩ := hok.root
    obtain ⟨m', h1, h2, _⟩ := hold m hm
    exact ⟨m', h1, by rw [h2, hr]⟩
  · intro n hn
    rcases (hmem n).1 hn with rfl | ⟨hn, _⟩
    · refine ⟨c2, ?_, ?_, hfl.2.2.2⟩
      · show 0 ≤ (getP L p).1.Version + 1; omega
      · show (getP L p).1.Version + 1 ≤ 1000000000; omega
    · exact hok.flds n hn
  · intro n hn hr
    obtain ⟨m, hm, h1, h2⟩ := hnew n hn
    rw [h2]; exact hok.top m hm (by rw [← h1]; exact hr)
  · intro n hn hr
    obtain ⟨m, hm, h1, h2⟩ := hnew n hn
    obtain ⟨q, hq, h3, h4⟩ := hok.grown m hm (by rw [← h1]; exact hr)
    obtain ⟨q', h5, h6, h7⟩ := hold q hq
    exact ⟨q', h5, by rw [h6, h3, h1], by rw [h7, h4]⟩
/-! ### one less -/
theorem erase_mem {L : List ShelfNode} (hs : OrdL L) {i : Nat} (hi : i < L.length) (n : ShelfNode) : n ∈ L.take i ++ L.drop (i + 1) ↔ n ∈ L ∧ n.Path ≠ (L[i]).Path := by
  rw [List.mem_append]
  constructor
  · rintro (h | h)
    · obtain ⟨j, hj, rfl⟩ := List.mem_iff_getElem.1 h
      rw [List.length_take] at hj
      rw [List.getElem_take]
      exact ⟨List.getElem_mem _, fun e => by have := ord_inj hs (by omega) hi e; omega⟩
    · obtain ⟨j, hj, rfl⟩ := List.mem_iff_getElem.1 h
      rw [List.length_drop] at hj
      rw [List.getElem_drop]
      exact ⟨List.getElem_mem _, fun e => by have := ord_inj hs (by omega) hi e; omega⟩
  · rintro ⟨h, hne⟩
    obtain ⟨j, hj, rfl⟩ := List.mem_iff_getElem.1 h
    rcases Nat.lt_trichotomy j i with h1 | h1 | h1
    · exact .inl (List.mem_iff_getElem.2 ⟨j, by rw [List.length_take]; omega, by rw [List.getElem_take]⟩)
    · subst h1; exact absurd rfl hne
    · exact .inr (List.mem_iff_getElem.2 ⟨j - (i + 1), by rw [List.length_drop]; omega, by rw [List.getElem_drop]; congr 1; omega⟩)
theorem del_pos {L : List ShelfNode} {p : List UInt8} {version : Int} (h : delE L p version = 0) : p ≠ [47] ∧ (findP L p).2 = 0 ∧ kidsL L p = [] := by
  unfold delE at h
  by_cases hp : p = [47]
  · simp [hp] at h
  rw [if_neg hp] at h
  by_cases h0 : versE L p version = 0
  · rw [if_pos h0] at h
    by_cases hk : kidsL L p = []
    · exact ⟨hp, vers_pos h0, hk⟩
    · simp [hk] at h
  · rw [if_neg h0] at h; exact absurd h h0
theorem delP_ok {L : List ShelfNode} (hok : ShelfOK L) (p : List UInt8) (version : Int) : ShelfOK (delP L p version).1 := by
  unfold delP
  by_cases h : delE L p version = 0
  rotate_left
  · rw [if_neg h]; exact hok
  rw [if_pos h]
  obtain ⟨c1, c2, c3⟩ := del_pos h
  obtain ⟨g1, g2, g3, _⟩ := get_at c2
  rw [g2] at g3
  have hmem := erase_mem hok.ord g1
  rw [g3] at hmem
  have hsub : (L.take (findP L p).1.toNat ++ L.drop ((findP L p).1.toNat + 1)).Sublist L := by
    conv => rhs; rw [← List.take_append_drop (findP L p).1.toNat L]
    exact (List.Sublist.refl _).append (by rw [List.drop_eq_getElem_cons g1]; exact List.sublist_cons_self ..)
  refine ⟨Nat.le_trans hsub.length_le hok.len, ord_sub hsub hok.ord, ?_, fun n hn => hok.flds n (hsub.subset hn), fun n hn => hok.top n (hsub.subset hn), fun n hn hr => ?_⟩
  · obtain ⟨m, hm, hr⟩ := hok.root
    exact ⟨m, (hmem m).2 ⟨hm, by rw [hr]; exact fun e => c1 e.symm⟩, hr⟩
  · obtain ⟨m, hm, h1, h2⟩ := hok.grown n (hsub.subset hn) hr
    refine ⟨m, (hmem m).2 ⟨hm, fun e => ?_⟩, h1, h2⟩
    have hkid : kidB p n = true := by
      unfold kidB
      rw [decide_eq_true_eq]
      exact ⟨(parent_two (hok.ord.1 n (hsub.subset hn))).2 hr, by rw [← h1, e]⟩
    have : n ∈ L.filter (kidB p) := List.mem_filter.2 ⟨hsub.subset hn, hkid⟩
    unfold kidsL at c3
    rw [List.map_eq_nil_iff] at c3
    rw [c3] at this; simp at this
/-! ### what all other paths have -/
theorem create_other {L : List ShelfNode} (hok : ShelfOK L) (p value : List UInt8) (owner : Int) {q : List UInt8} (hq : q ≠ p) : getP (createP L p value owner).1 q = getP L q := by
  refine get_congr (createP_ok hok p value owner).ord hok.ord fun n hn => ?_
  unfold createP
  by_cases h : createE L p value owner = 0
  · rw [if_pos h, ins_mem]
    exact ⟨fun h' => h'.resolve_left fun e => hq (by rw [← hn, e]), .inr⟩
  · rw [if_neg h]
theorem set_other {L : List ShelfNode} (hok : ShelfOK L) (p value : List UInt8) (version : Int) {q : List UInt8} (hq : q ≠ p) : getP (setP L p value version).1 q = getP L q := by
  refine get_congr (setP_ok hok p value version).ord hok.ord fun n hn => ?_
  unfold setP
  by_cases h : setE L p value version = 0
  · rw [if_pos h]
    obtain ⟨c1, c2, c3⟩ := set_pos h
    obtain ⟨g1, g2, g3, _⟩ := get_at c1
    rw [set_mem hok.ord g1 (by rw [← g2]; rfl)]
    have hyp : (setN (getP L p).1 value).Path = p := g3
    rw [hyp]
    exact ⟨fun h' => (h'.resolve_left fun e => hq (by rw [← hn, e, hyp])).1, fun h' => .inr ⟨h', by rw [hn]; exact hq⟩⟩
  · rw [if_neg h]
theorem del_other {L : List ShelfNode} (hok : ShelfOK L) (p : List UInt8) (version : Int) {q : List UInt8} (hq : q ≠ p) : getP (delP L p version).1 q = getP L q := by
  refine get_congr (delP_ok hok p version).ord hok.ord fun n hn => ?_
  unfold delP
  by_cases h : delE L p version = 0
  · rw [if_pos h]
    obtain ⟨c1, c2, c3⟩ := del_pos h
    obtain ⟨g1, g2, g3, _⟩ := get_at c2
    rw [g2] at g3
    rw [erase_mem hok.ord g1, g3]
    exact ⟨fun h' => h'.1, fun h' => ⟨h', by rw [hn]; exact hq⟩⟩
  · rw [if_neg h]
/-! ### what its own path has -/
theorem create_own {L : List ShelfNode} (hok : ShelfOK L) {p value : List UInt8} {owner : Int} (h : createE L p value owner = 0) : getP (createP L p value owner).1 p = (⟨p, value, 0, owner⟩, 0) ∧ (getP L p).2 = 6 := by
  have ho := (createP_ok hok p value owner).ord
  obtain ⟨h1, h2⟩ := create_new h
  constructor
  · refine get_mem ho (n := ⟨p, value, 0, owner⟩) ?_
    unfold createP
    rw [if_pos h]
    exact ins_mem.2 (.inl rfl)
  · rw [get_not h2, h1]; rfl
theorem set_own {L : List ShelfNode} (hok : ShelfOK L) {p value : List UInt8} {version : Int} (h : setE L p value version = 0) : getP (setP L p value version).1 p = (⟨p, value, (getP L p).1.Version + 1, (getP L p).1.Owner⟩, 0) ∧ (getP L p).1.Version < 1000000000 ∧ 0 ≤ (getP L p).1.Version := by
  have ho := (setP_ok hok p value version).ord
  obtain ⟨c1, c2, c3⟩ := set_pos h
  obtain ⟨g1, g2, g3, _⟩ := get_at c1
  have hfl := hok.flds _ (List.getElem_mem g1)
  rw [← g2] at hfl
  refine ⟨?_, c3, hfl.2.1⟩
  have hN : setN (getP L p).1 value = ⟨p, value, (getP L p).1.Version + 1, (getP L p).1.Owner⟩ := by unfold setN; rw [g3]
  rw [← hN]
  have := get_mem ho (n := setN (getP L p).1 value) (by
    unfold setP
    rw [if_pos h]
    exact (set_mem hok.ord g1 (by rw [← g2]; rfl) _).2 (.inl rfl))
  have hp : (setN (getP L p).1 value).Path = p := g3
  rw [hp] at this
  exact this
theorem del_own {L : List ShelfNode} (hok : ShelfOK L) {p : List UInt8} {version : Int} (h : delE L p version = 0) : (getP (delP L p version).1 p).2 = 6 := by
  obtain ⟨c1, c2, c3⟩ := del_pos h
  obtain ⟨g1, g2, g3, _⟩ := get_at c2
  rw [g2] at g3
  have hpr : rightB p = true := (find_at c2).1
  rw [get_not (L := (delP L p version).1) (q := p) (fun n hn e => by
    unfold delP at hn
    rw [if_pos h] at hn
    exact ((erase_mem hok.ord g1 n).1 hn).2 (by rw [e, g3])), hpr]
  rfl
theorem create_e {L : List ShelfNode} {p value : List UInt8} {owner : Int} : (createP L p value owner).2 = createE L p value owner := by
  unfold createP
  by_cases h : createE L p value owner = 0 <;> simp [h]
theorem set_e {L : List ShelfNode} {p value : List UInt8} {version : Int} : (setP L p value version).2 = setE L p value version := by
  unfold setP
  by_cases h : setE L p value version = 0 <;> simp [h]
theorem del_e {L : List ShelfNode} {p : List UInt8} {version : Int} : (delP L p version).2 = delE L p version := by
  unfold delP
  by_cases h : delE L p version = 0 <;> simp [h]
theorem shelfJust_all (s : ShelfShelf) (c : L09Change) (other : List UInt8) : tL09ShelfJust s c other = some true := by
  unfold tL09ShelfJust
  obtain ⟨b, hb, hf⟩ := guard_eq s
  rw [hb, bd_s, evL09Alive]
  cases b with
  | false => rfl
  | true =>
    obtain ⟨hl, h1, h2, h3⟩ := hf rfl
    rw [if_neg (by decide), h1, bd_s, h2, bd_s]
    cases hr : shelfB s.L with
    | false => rfl
    | true =>
      have hs := h3 hr
      have hok := shelf_iff.1 hr
      rw [if_neg (by decide)]
      by_cases hc1 : (1100 : Int) < (c.Path.length : Int)
      · rw [if_pos hc1]; rfl
      rw [if_neg hc1]
      by_cases hc2 : (1100 : Int) < (c.Value.length : Int)
      · rw [if_pos hc2]; rfl
      rw [if_neg hc2, bd_s]
      by_cases hc3 : (1100 : Int) < (other.length : Int)
      · rw [decide_eq_true hc3]; rfl
      have q1 := createP_len s.L c.Path c.Value c.Owner
      have q2 := setP_len s.L c.Path c.Value c.Version
      have q3 := delP_len s.L c.Path c.Version
      have o1 := createP_ok hok c.Path c.Value c.Owner
      have o2 := setP_ok hok c.Path c.Value c.Version
      have o3 := delP_ok hok c.Path c.Version
      have pl : ∀ L : List ShelfNode, L.length < 2 ^ 40 → tL09Plain ⟨L⟩ = some (plainS ⟨L⟩) := fun L hL => plain_eq ⟨L⟩ hL
      have rg : ∀ L : List ShelfNode, ShelfOK L → tR09Right (plainS ⟨L⟩) = some true := fun L hL => by
        rw [r09right_eq ⟨L⟩ (by have := hL.len; show L.length < _; omega)]
        have := shelf_iff.2 hL
        show some (shelfB L) = _
        rw [this]
      have gt : ∀ L : List ShelfNode, ShelfOK L → ∀ q, tShelfGet ⟨L⟩ q = some (getP L q) := fun L hL q => get_eq (s := ⟨L⟩) hL.ord (by have := hL.len; show L.length < _; omega) q
      rw [decide_eq_false hc3, if_neg (by decide), get_eq hs (by omega), bd_s, create_eq hs (by omega), bd_s, set_eq hok, bd_s, del_eq hok, bd_s]
      dsimp only
      rw [pl _ (by omega), bd_s, rg _ o1, bd_s, if_neg (by decide), pl _ (by omega), bd_s, rg _ o2, bd_s, if_neg (by decide), pl _ (by omega), bd_s, rg _ o3, bd_s, bd_s, if_neg (by decide)]
      rw [gt _ o1, gt _ o2, gt _ o3]
      by_cases he : other = c.Path
      rotate_left
      · rw [decide_eq_false he, if_pos (by decide), bd_s, bd_s, bd_s, create_other hok c.Path c.Value c.Owner he, set_other hok c.Path c.Value c.Version he, del_other hok c.Path c.Version he]
        simp [bd_s]
      · subst he
        rw [decide_eq_true rfl, if_neg (by decide), bd_s, bd_s, bd_s, create_e, set_e, del_e]
        have hw3 : (if !decide (createE s.L c.Path c.Value c.Owner = 0) then some true else if (getP (createP s.L c.Path c.Value c.Owner).1 c.Path).2 = 0 then some ((decide ((getP (createP s.L c.Path c.Value c.Owner).1 c.Path).1.Path = c.Path)) && ((decide ((getP (createP s.L c.Path c.Value c.Owner).1 c.Path).1.Value = c.Value)) && ((decide ((getP (createP s.L c.Path c.Value c.Owner).1 c.Path).1.Version = 0)) && (decide ((getP (createP s.L c.Path c.Value c.Owner).1 c.Path).1.Owner = c.Owner))))) else some false) = some true := by
          by_cases h : createE s.L c.Path c.Value c.Owner = 0
          · rw [(create_own hok h).1]; simp [h]
          · simp [h]
        have hw4 : (if !decide (setE s.L c.Path c.Value c.Version = 0) then some true else if (getP (setP s.L c.Path c.Value c.Version).1 c.Path).2 = 0 then some ((decide ((getP (setP s.L c.Path c.Value c.Version).1 c.Path).1.Path = c.Path)) && ((decide ((getP (setP s.L c.Path c.Value c.Version).1 c.Path).1.Value = c.Value)) && ((decide ((getP (setP s.L c.Path c.Value c.Version).1 c.Path).1.Version = (IntKind.wrap .i64 ((getP s.L c.Path).1.Version + 1)))) && (decide ((getP (setP s.L c.Path c.Value c.Version).1 c.Path).1.Owner = (getP s.L c.Path).1.Owner))))) else some false) = some true := by
          by_cases h : setE s.L c.Path c.Value c.Version = 0
          · obtain ⟨g1, g2, g3⟩ := set_own hok h
            rw [g1, wrap64 (by omega) (by omega)]; simp [h]
          · simp [h]
        rw [hw3, bd_s, hw4, bd_s, bd_s, if_pos rfl, if_pos rfl, if_pos rfl]
        have hcr : (if !decide (createE s.L c.Path c.Value c.Owner = 0) then some true else some (decide ((getP s.L c.Path).2 = 6))) = some true := by
          by_cases h : createE s.L c.Path c.Value c.Owner = 0
          · rw [(create_own hok h).2]; simp [h]
          · simp [h]
        rw [hcr]
        by_cases h : delE s.L c.Path c.Version = 0
        · rw [decide_eq_true h, if_neg (by decide), if_pos (del_own hok h)]; rfl
        · rw [decide_eq_false h, if_pos (by decide)]; rfl
end Dn.S
