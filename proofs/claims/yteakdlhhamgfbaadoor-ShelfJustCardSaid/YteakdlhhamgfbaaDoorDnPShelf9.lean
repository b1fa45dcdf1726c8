import Derived.Test.YteakdlhhamgfbaaDoorDnPShelf8
/-
  Shelves: what the document says of changes; ShelfChanges. Conditions: none.
-/
open Go Dn
set_option linter.unusedVariables false
set_option linter.unusedSimpArgs false
namespace Dn.S
theorem parent_right {p : List UInt8} (h : rightB p = true) (h1 : p ≠ [47]) : rightB (parentP p).1 = true := by
  have hpar : (parentP p).1 = madeL ((namesL p).take ((namesL p).length - 1)) := by
    unfold parentP
    rw [h]
    simp [h1, List.dropLast_eq_take]
  rw [hpar]
  exact (right_take h _).1
theorem plain_len (s : ShelfShelf) : (plainS s).L.length = s.L.length := List.length_map ..
theorem at_plain {s : ShelfShelf} (hl : s.L.length < 2 ^ 40) (p : List UInt8) : tR09At (plainS s) p = some (atI (s.L.map (·.Path)) p) := by
  rw [at_eq _ _ (by rw [plain_len]; exact hl)]
  have hpp : (plainS s).L.map (·.Path) = s.L.map (·.Path) := plain_paths s.L
  rw [hpp]
theorem plain_get {s : ShelfShelf} {k : Nat} (hk : k < s.L.length) : (plainS s).L[k]'(by rw [plain_len]; exact hk) = toR s.L[k] := List.getElem_map ..
theorem at_root {L : List ShelfNode} (h : ShelfOK L) : 0 ≤ atI (L.map (·.Path)) [47] := by
  obtain ⟨m, hm, hr⟩ := h.root
  by_cases h0 : 0 ≤ atI (L.map (·.Path)) [47]
  · exact h0
  · exact absurd hr (at_no h0 m hm)
/-- the loop of a new one -/
def insA (L : List ShelfNode) (i0 : Nat) (n : ShelfNode) (k : Nat) : List ShelfNode := if k ≤ i0 then L.take k else L.take i0 ++ n :: (L.take k).drop i0
theorem insA_len {L : List ShelfNode} {i0 : Nat} {n : ShelfNode} {k : Nat} (hk : k ≤ L.length) : (insA L i0 n k).length ≤ k + 1 := by
  unfold insA
  split
  · rw [List.length_take]; omega
  · rw [List.length_append, List.length_cons, List.length_drop, List.length_take, List.length_take]; omega
theorem r09create_eq {s : ShelfShelf} (hok : ShelfOK s.L) (p value : List UInt8) (owner : Int) : tR09Create (plainS s) p value owner = some (plainS ⟨(createP s.L p value owner).1⟩, (createP s.L p value owner).2) := by
  have hl := hok.len
  have hs := hok.ord
  unfold tR09Create createP
  rw [r08right_eq, bd_s]
  cases hp : rightB p with
  | false =>
    have he : createE s.L p value owner = 13 := by unfold createE; rw [hp]; rfl
    rw [he]; rfl
  | true =>
    rw [if_neg (by decide), at_plain (by omega), bd_s]
    by_cases h0 : 0 ≤ atI (s.L.map (·.Path)) p
    · have he : createE s.L p value owner = 7 := by unfold createE; rw [hp]; simp [h0]
      rw [if_pos h0, he]; rfl
    rw [if_neg h0, r08parent_eq, bd_s]
    show bd (tR09At (plainS s) (parentP p).1) _ = _
    rw [at_plain (by omega), bd_s]
    have hroot : p ≠ [47] := fun e => h0 (by rw [e]; exact at_root hok)
    have hup := parent_right hp hroot
    have hfp : (getP s.L (parentP p).1).2 = 0 ↔ 0 ≤ atI (s.L.map (·.Path)) (parentP p).1 := by
      rw [getP_e]; unfold findP; rw [hup]
      by_cases h : 0 ≤ atI (s.L.map (·.Path)) (parentP p).1 <;> simp [h]
    by_cases h1 : 0 ≤ atI (s.L.map (·.Path)) (parentP p).1
    rotate_left
    · have he : createE s.L p value owner = 6 := by unfold createE; rw [hp]; simp only [if_true, h0, if_false, hfp, h1]
      rw [if_pos (by omega), he]; rfl
    have hlt := atI_lt h1
    rw [List.length_map] at hlt
    have hg : (getP s.L (parentP p).1).1 = s.L[(atI (s.L.map (·.Path)) (parentP p).1).toNat] := by
      have h0' := hfp.2 h1
      rw [getP_e] at h0'
      obtain ⟨g1, g2, _⟩ := get_at h0'
      rw [g2]
      have : (findP s.L (parentP p).1).1 = atI (s.L.map (·.Path)) (parentP p).1 := by unfold findP; rw [hup]; simp [h1]
      simp only [this]
    rw [if_neg (by omega), ix_int h1 (by rw [plain_len]; exact hlt), plain_get hlt]
    show (if !decide ((s.L[(atI (s.L.map (·.Path)) (parentP p).1).toNat]).Owner = 0) then _ else _) = _
    by_cases h2 : (s.L[(atI (s.L.map (·.Path)) (parentP p).1).toNat]).Owner = 0
    rotate_left
    · have he : createE s.L p value owner = 10 := by unfold createE; rw [hp]; simp only [if_true, h0, if_false, hfp, h1, hg, h2]
      rw [decide_eq_false h2, if_pos (by decide), he]; rfl
    rw [decide_eq_true h2, if_neg (by decide), plain_len]
    by_cases h3 : (1000 : Int) < (value.length : Int)
    · have he : createE s.L p value owner = 5 := by unfold createE; rw [hp]; simp only [if_true, h0, if_false, hfp, h1, hg, h2, h3]
      rw [if_pos h3, he]; rfl
    rw [if_neg h3]
    by_cases h4 : owner < 0
    · have he : createE s.L p value owner = 1 := by unfold createE; rw [hp]; simp only [if_true, h0, if_false, hfp, h1, hg, h2, h3, h4]
      rw [if_pos h4, he]; rfl
    rw [if_neg h4]
    by_cases h5 : (200 : Int) ≤ (s.L.length : Int)
    · have he : createE s.L p value owner = 9 := by unfold createE; rw [hp]; simp only [if_true, h0, if_false, hfp, h1, hg, h2, h3, h4, h5]
      rw [if_pos h5, he]; rfl
    have he : createE s.L p value owner = 0 := by unfold createE; rw [hp]; simp only [if_true, h0, if_false, hfp, h1, hg, h2, h3, h4, h5]
    rw [if_neg h5, if_pos he]
    obtain ⟨i0, i1, i2, i3⟩ := split_at hs (namesL p)
    obtain ⟨e1, e2⟩ := take_while (q := ltQ p) i1 i2 i3
    have hah : ∀ k (hk : k < s.L.length), aheadB p (s.L[k]).Path = decide (i0 ≤ k) := by
      intro k hk
      unfold aheadB
      rw [hp, ord_right hs hk]
      simp only [Bool.true_and]
      by_cases hki : i0 ≤ k
      · rw [decide_eq_true hki]
        rcases ltL_tri (namesL (s.L[k]).Path) (namesL p) with h | h | h
        · rw [i3 k hk hki] at h; cases h
        · exact absurd (names_inj (rightB_len (ord_right hs hk)).2.1 (rightB_len hp).2.1 h) (at_no h0 _ (List.getElem_mem hk))
        · exact h
      · rw [decide_eq_false hki]
        exact ltL_asym (i2 k hk (by omega))
    obtain ⟨n, hn⟩ : ∃ n : ShelfNode, n = ⟨p, value, 0, owner⟩ := ⟨_, rfl⟩
    have hnr : (⟨p, value, 0, owner⟩ : R09Node) = toR n := by rw [hn]
    rw [hnr]
    have hloop : Loop (tR09CreateL1 (plainS s) p value owner) (([] : List R09Node), false, 0) = some ((insA s.L i0 n s.L.length).map toR, decide (i0 < s.L.length)) := by
      refine Gives.eq (Gives.count (fun k => ((insA s.L i0 n k).map toR, decide (i0 < k), (k : Int))) s.L.length (fun _ => True) (by simp [insA]) trivial (fun k hk _ => ?_) (fun _ => ?_))
      · have hlk := insA_len (L := s.L) (i0 := i0) (n := n) (k := k) (by omega)
        unfold tR09CreateL1
        dsimp only
        rw [hnr, plain_len, if_pos (by omega)]
        rcases Nat.lt_trichotomy k i0 with hki | hki | hki
        · rw [decide_eq_false (show ¬ i0 < k by omega), if_pos (by decide), ix_nat (by rw [plain_len]; exact hk), plain_get hk]
          simp only [toR_path]
          rw [r08ahead_eq, bd_s, hah k hk, decide_eq_false (show ¬ i0 ≤ k by omega), bd_s, if_neg (by decide), bd_s]
          dsimp only
          rw [ix_nat (by rw [plain_len]; exact hk), plain_get hk, if_pos (by simp only [List.length_map, List.length_cons, List.length_nil]; omega), wrap64 (by omega) (by omega)]
          refine .mk ⟨?_, trivial⟩
          have : insA s.L i0 n (k + 1) = insA s.L i0 n k ++ [s.L[k]] := by
            unfold insA
            rw [if_pos (by omega), if_pos (by omega), take_succ hk]
          rw [this, decide_eq_false (show ¬ i0 < k + 1 by omega), List.map_append]; rfl
        · subst hki
          rw [decide_eq_false (show ¬ k < k by omega), if_pos (by decide), ix_nat (by rw [plain_len]; exact hk), plain_get hk]
          simp only [toR_path]
          rw [r08ahead_eq, bd_s, hah k hk, decide_eq_true (Nat.le_refl k), bd_s, if_pos rfl, if_pos (by simp only [List.length_map, List.length_cons, List.length_nil]; omega), bd_s]
          dsimp only
          rw [ix_nat (by rw [plain_len]; exact hk), plain_get hk, if_pos (by simp only [List.length_append, List.length_map, List.length_cons, List.length_nil]; omega), wrap64 (by omega) (by omega)]
          refine .mk ⟨?_, trivial⟩
          have : insA s.L k n (k + 1) = insA s.L k n k ++ [n] ++ [s.L[k]] := by
            unfold insA
            rw [if_neg (by omega), if_pos (Nat.le_refl k), take_succ hk, List.drop_append, List.drop_of_length_le (by rw [List.length_take]; omega), List.length_take, Nat.min_eq_left (by omega), Nat.sub_self]
            simp
          rw [this, decide_eq_true (show k < k + 1 by omega), List.map_append, List.map_append]; rfl
        · rw [decide_eq_true hki, if_neg (by decide), bd_s, if_neg (by decide), bd_s]
          dsimp only
          rw [ix_nat (by rw [plain_len]; exact hk), plain_get hk, if_pos (by simp only [List.length_map, List.length_cons, List.length_nil]; omega), wrap64 (by omega) (by omega)]
          refine .mk ⟨?_, trivial⟩
          have : insA s.L i0 n (k + 1) = insA s.L i0 n k ++ [s.L[k]] := by
            unfold insA
            rw [if_neg (by omega), if_neg (by omega), take_succ hk, List.drop_append, List.length_take, Nat.min_eq_left (by omega), show i0 - k = 0 by omega]
            simp
          rw [this, decide_eq_true (show i0 < k + 1 by omega), List.map_append]; rfl
      · unfold tR09CreateL1
        dsimp only
        rw [plain_len, if_neg (by omega)]
        exact .mk rfl
    rw [hloop, bd_s]
    dsimp only
    have hfin : insL s.L n = if i0 < s.L.length then insA s.L i0 n s.L.length else insA s.L i0 n s.L.length ++ [n] := by
      unfold insL insA
      have hnp : n.Path = p := by rw [hn]
      rw [hnp, ← e1, ← e2]
      by_cases h : i0 < s.L.length
      · rw [if_pos h, if_neg (by omega), List.take_length]
      · rw [if_neg h, if_pos (by omega), List.take_length, List.take_of_length_le (by omega), List.drop_of_length_le (by omega)]
    have hlk := insA_len (L := s.L) (i0 := i0) (n := n) (k := s.L.length) (Nat.le_refl _)
    rw [← hn, hfin]
    by_cases h : i0 < s.L.length
    · rw [decide_eq_true h, if_neg (by decide), bd_s, if_pos h]; rfl
    · rw [decide_eq_false h, if_pos (by decide), if_pos (by simp only [List.length_map, List.length_cons, List.length_nil]; omega), bd_s, if_neg h]
      unfold plainS
      rw [List.map_append]; rfl
theorem r09set_eq {s : ShelfShelf} (hok : ShelfOK s.L) (p value : List UInt8) (version : Int) : tR09Set (plainS s) p value version = some (plainS ⟨(setP s.L p value version).1⟩, (setP s.L p value version).2) := by
  have hl := hok.len
  have hs := hok.ord
  unfold tR09Set setP setE
  rw [r09get_eq (by omega), bd_s]
  dsimp only
  rw [getP_e]
  by_cases h : (findP s.L p).2 = 0
  rotate_left
  · have hv : versE s.L p version = (findP s.L p).2 := by unfold versE; rw [if_neg (fun h' => h h'.1)]
    rw [decide_eq_false h, if_pos (by decide), hv]
    simp [h]
  obtain ⟨g2, hv, hpa, g1⟩ := get_at h
  have hfl := hok.flds _ (List.getElem_mem g2)
  rw [← hv] at hfl
  rw [decide_eq_true h, if_neg (by decide)]
  by_cases h1 : version ≠ -1 ∧ version ≠ (getP s.L p).1.Version
  · have hv8 : versE s.L p version = 8 := by unfold versE; rw [if_pos ⟨h, h1⟩]
    rw [decide_eq_false h1.1, if_pos (by decide), bd_s, decide_eq_false h1.2, if_pos (by decide), hv8]
    rfl
  · have hw : (if !decide (version = (-1)) then some (!decide (version = (getP s.L p).1.Version)) else some false) = some false := by
      by_cases h2 : version = -1
      · simp [h2]
      · by_cases h3 : version = (getP s.L p).1.Version
        · simp [h3]
        · exact absurd ⟨h2, h3⟩ h1
    have hv0 : versE s.L p version = 0 := by unfold versE; rw [if_neg (fun h' => h1 h'.2)]; exact h
    rw [hw, bd_s, if_neg (by decide), if_pos hv0]
    by_cases h3 : (1000 : Int) < (value.length : Int)
    · simp [h3]
    · rw [if_neg h3, if_neg h3]
      by_cases h4 : (1000000000 : Int) ≤ (getP s.L p).1.Version
      · rw [if_pos (by omega), if_pos h4]; rfl
      · have hat : atI (s.L.map (·.Path)) p = (findP s.L p).1 := by
          unfold findP at h ⊢
          cases hp : rightB p with
          | false => rw [hp] at h; simp at h
          | true =>
            rw [hp] at h
            by_cases h0 : 0 ≤ atI (s.L.map (·.Path)) p
            · simp [h0]
            · simp [h0] at h
        have hpl := plain_len s
        have hg2 : (findP s.L p).1.toNat < (plainS s).L.length := by rw [hpl]; exact g2
        rw [if_neg (by omega), if_neg h4, if_pos (by rw [hpl]; simp; omega), at_plain (by omega), bd_s, hat, List.nil_append, ix_int g1 hg2]
        simp only [if_true]
        rw [wrap64 (by omega) (by omega)]
        unfold plainS setN
        rw [List.map_set, hpa]
theorem r09del_eq {s : ShelfShelf} (hok : ShelfOK s.L) (p : List UInt8) (version : Int) : tR09Delete (plainS s) p version = some (plainS ⟨(delP s.L p version).1⟩, (delP s.L p version).2) := by
  have hl := hok.len
  have hs := hok.ord
  unfold tR09Delete delP delE
  rw [r09get_eq (by omega), bd_s]
  dsimp only
  rw [getP_e]
  by_cases hp : p = [47]
  · have h : (findP s.L p).2 = 0 := by
      unfold findP
      have : rightB [47] = true := by
        obtain ⟨m, hm, hr⟩ := hok.root
        rw [← hr]; exact hs.1 m hm
      rw [hp, this]
      simp [at_root hok]
    rw [decide_eq_true h, if_neg (by decide), if_pos hp]
    simp [hp]
  by_cases h : (findP s.L p).2 = 0
  rotate_left
  · have hv : versE s.L p version = (findP s.L p).2 := by unfold versE; rw [if_neg (fun h' => h h'.1)]
    rw [decide_eq_false h, if_pos (by decide), hv]
    simp [h, hp]
  obtain ⟨g2, hv, hpa, g1⟩ := get_at h
  rw [decide_eq_true h, if_neg (by decide), if_neg hp]
  by_cases h1 : version ≠ -1 ∧ version ≠ (getP s.L p).1.Version
  · have hv8 : versE s.L p version = 8 := by unfold versE; rw [if_pos ⟨h, h1⟩]
    rw [decide_eq_false h1.1, if_pos (by decide), bd_s, decide_eq_false h1.2, if_pos (by decide), hv8, if_neg hp]
    rfl
  · have hw : (if !decide (version = (-1)) then some (!decide (version = (getP s.L p).1.Version)) else some false) = some false := by
      by_cases h2 : version = -1
      · simp [h2]
      · by_cases h3 : version = (getP s.L p).1.Version
        · simp [h3]
        · exact absurd ⟨h2, h3⟩ h1
    have hv0 : versE s.L p version = 0 := by unfold versE; rw [if_neg (fun h' => h1 h'.2)]; exact h
    rw [hw, bd_s, if_neg (by decide), if_neg hp, if_pos hv0, kids_eq hs (by omega), bd_s]
    by_cases hk : kidsL s.L p = []
    rotate_left
    · have : 0 < (kidsL s.L p).length := List.length_pos_iff.2 hk
      rw [if_pos (by omega), if_neg hk]; rfl
    have hat : atI (s.L.map (·.Path)) p = (findP s.L p).1 := by
      unfold findP at h ⊢
      cases hp : rightB p with
      | false => rw [hp] at h; simp at h
      | true =>
        rw [hp] at h
        by_cases h0 : 0 ≤ atI (s.L.map (·.Path)) p
        · simp [h0]
        · simp [h0] at h
    obtain ⟨i, hie⟩ : ∃ i : Nat, (findP s.L p).1 = (i : Int) := ⟨(findP s.L p).1.toNat, by omega⟩
    have hin : (findP s.L p).1.toNat = i := by rw [hie]; rfl
    simp only [hin] at g2 ⊢
    have hpl := plain_len s
    rw [hk, if_neg (by decide), if_pos rfl, at_plain (by omega), bd_s, hat, hie, wrap64 (by omega) (by omega), show (i : Int) + 1 = ((i + 1 : Nat) : Int) by omega]
    rw [if_pos ⟨by omega, by omega, by omega⟩, if_pos (by simp; omega), if_pos ⟨by omega, by omega, by omega⟩, if_pos (by simp; omega)]
    unfold plainS
    simp only [if_true, List.nil_append, Int.toNat_natCast, List.take_length, List.map_append, List.map_take, List.map_drop]
    simp
theorem r09drop_eq (s : ShelfShelf) (owner : Int) (hl : s.L.length < 2 ^ 40) : tR09Drop (plainS s) owner = some (plainS ⟨(dropP s.L owner).1⟩, (dropP s.L owner).2) := by
  have hloop : Loop (tR09DropL1 (plainS s) owner) (([] : List R09Node), ([] : List (List UInt8)), 0) = some (((dropP s.L owner).1).map toR, (dropP s.L owner).2) := by
    refine Gives.eq (Gives.count (fun k => ((dropP (s.L.take k) owner).1.map toR, (dropP (s.L.take k) owner).2, (k : Int))) s.L.length (fun _ => True) rfl trivial (fun k hk _ => ?_) (fun _ => ?_))
    · have l1 : (dropP (s.L.take k) owner).1.length ≤ k := by
        unfold dropP
        have := List.length_filter_le (stayB owner) (s.L.take k)
        rw [List.length_take] at this; dsimp only; omega
      have l2 : (dropP (s.L.take k) owner).2.length ≤ k := by
        unfold dropP
        have := List.length_filter_le (fun n => !stayB owner n) (s.L.take k)
        rw [List.length_take] at this; dsimp only; rw [List.length_map]; omega
      have e1 := filter_succ (stayB owner) hk
      have e2 := filter_succ (fun n => !stayB owner n) hk
      have hkp : k < (plainS s).L.length := by rw [plain_len]; exact hk
      unfold tR09DropL1
      dsimp only
      rw [plain_len, if_pos (by omega), ix_nat hkp, ix_nat hkp, ix_nat hkp, plain_get hk]
      simp only [toR_path, toR_owner]
      have hw : (if (0 : Int) < owner then some (decide ((s.L[k]).Owner = owner)) else some false) = some (!stayB owner s.L[k]) := by
        unfold stayB
        by_cases h : (0 : Int) < owner <;> simp [h]
      rw [hw, bd_s, wrap64 (by omega) (by omega)]
      cases hst : stayB owner s.L[k] with
      | true =>
        rw [if_neg (by decide), if_pos (by simp only [List.length_map, List.length_cons, List.length_nil]; omega), bd_s]
        rw [hst] at e1 e2
        refine .mk ⟨?_, trivial⟩
        unfold dropP
        rw [e1, e2]
        simp
      | false =>
        rw [if_pos (by decide), if_pos (by simp only [List.length_cons, List.length_nil]; omega), bd_s]
        rw [hst] at e1 e2
        refine .mk ⟨?_, trivial⟩
        unfold dropP
        rw [e1, e2]
        simp
    · unfold tR09DropL1
      dsimp only
      rw [plain_len, if_neg (by omega), List.take_length]
      exact .mk rfl
  unfold tR09Drop
  rw [hloop]; rfl
theorem createP_len (L : List ShelfNode) (p value : List UInt8) (owner : Int) : (createP L p value owner).1.length ≤ L.length + 1 := by
  unfold createP
  split
  · rw [ins_len]; exact Nat.le_refl _
  · exact Nat.le_succ _
theorem setP_len (L : List ShelfNode) (p value : List UInt8) (version : Int) : (setP L p value version).1.length = L.length := by
  unfold setP
  split
  · exact List.length_set ..
  · rfl
theorem delP_len (L : List ShelfNode) (p : List UInt8) (version : Int) : (delP L p version).1.length ≤ L.length := by
  unfold delP
  split
  · rw [List.length_append, List.length_take, List.length_drop]; omega
  · exact Nat.le_refl _
theorem shelfChanges_all (s : ShelfShelf) (c : L09Change) : tL09ShelfChanges s c = some true := by
  unfold tL09ShelfChanges
  obtain ⟨b, hb, hf⟩ := guard_eq s
  rw [hb, bd_s, evL09Alive]
  cases b with
  | false => rfl
  | true =>
    obtain ⟨hl, h1, h2, h3⟩ := hf rfl
    rw [if_neg (by decide), h1, bd_s, h2, bd_s]
    cases hr : shelfB s.L with
    | false => rfl
    | true =>
      have hs := h3 hr
      have hok := shelf_iff.1 hr
      rw [if_neg (by decide)]
      by_cases hc1 : (1100 : Int) < (c.Path.length : Int)
      · rw [if_pos hc1]; rfl
      rw [if_neg hc1, bd_s]
      by_cases hc2 : (1100 : Int) < (c.Value.length : Int)
      · rw [decide_eq_true hc2]; rfl
      have q1 := createP_len s.L c.Path c.Value c.Owner
      have q2 := setP_len s.L c.Path c.Value c.Version
      have q3 := delP_len s.L c.Path c.Version
      have q4 : (dropP s.L c.Owner).1.length ≤ s.L.length := List.length_filter_le _ _
      have q5 : (dropP s.L c.Owner).2.length ≤ s.L.length := by unfold dropP; dsimp only; rw [List.length_map]; exact List.length_filter_le _ _
      have same : ∀ L : List ShelfNode, L.length < 2 ^ 40 → tR09Same (plainS ⟨L⟩) (plainS ⟨L⟩) = some true := by
        intro L hL
        rw [r09same_eq _ _ (by show (L.map toR).length < _; rw [List.length_map]; exact hL), decide_eq_true rfl]
      have pl : ∀ L : List ShelfNode, L.length < 2 ^ 40 → tL09Plain ⟨L⟩ = some (plainS ⟨L⟩) := fun L hL => plain_eq ⟨L⟩ hL
      rw [decide_eq_false hc2, if_neg (by decide), bd_s, create_eq hs (by omega), bd_s, r09create_eq hok, bd_s, set_eq hok, bd_s, r09set_eq hok, bd_s]
      dsimp only
      rw [pl _ (by omega), bd_s, same _ (by omega), bd_s, if_neg (by decide), decide_eq_true rfl, if_neg (by decide), pl _ (by omega), bd_s, same _ (by omega), bd_s, if_neg (by decide), decide_eq_true rfl, bd_s, if_neg (by decide)]
      rw [del_eq hok, bd_s, r09del_eq hok, bd_s, drop_eq s _ (by omega), bd_s, r09drop_eq s _ (by omega), bd_s, bd_s]
      dsimp only
      rw [if_pos rfl, pl _ (by omega), bd_s, same _ (by omega), bd_s, if_pos rfl, if_pos rfl, pl _ (by omega), bd_s, same _ (by omega), bd_s, if_pos rfl, strings_eq _ _ (by omega), decide_eq_true rfl, bd_s, if_pos rfl, bd_s]
      have := same s.L (by omega)
      rw [this]; rfl
end Dn.S
