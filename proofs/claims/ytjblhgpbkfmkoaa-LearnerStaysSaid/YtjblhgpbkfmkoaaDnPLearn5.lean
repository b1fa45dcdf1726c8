import Derived.Test.YtjblhgpbkfmkoaaDnPLearn4
/-
  Learners: what was learned was said; LearnerStays. Conditions: none.
-/
open Go Dn
set_option linter.unusedVariables false
set_option linter.unusedSimpArgs false
set_option linter.unusedSectionVars false
namespace Dn.S
/-! ### who was heard -/
/-- those that some words mark, by their numbers -/
def markB (c : L22Word → Bool) (key : L22Word → Int) (L : List L22Word) : List Bool := L.foldl (fun b w => if c w then b.set (key w).toNat true else b) (List.replicate 64 false)
theorem mark_fold (c : L22Word → Bool) (key : L22Word → Int) (L : List L22Word) : ∀ b : List Bool, (L.foldl (fun b w => if c w then b.set (key w).toNat true else b) b).length = b.length ∧
    (∀ i : Nat, b[i]? = some true → (L.foldl (fun b w => if c w then b.set (key w).toNat true else b) b)[i]? = some true) ∧
    (∀ w ∈ L, c w = true → (key w).toNat < b.length → (L.foldl (fun b w => if c w then b.set (key w).toNat true else b) b)[(key w).toNat]? = some true) := by
  induction L with
  | nil => intro b; exact ⟨rfl, fun _ h => h, fun w hw => by cases hw⟩
  | cons x r ih =>
    intro b
    rw [List.foldl_cons]
    obtain ⟨h1, h2, h3⟩ := ih (if c x then b.set (key x).toNat true else b)
    have hl : (if c x then b.set (key x).toNat true else b).length = b.length := by split <;> simp
    refine ⟨by rw [h1, hl], fun i hi => h2 i ?_, fun w hw hc hk => ?_⟩
    · split
      · rw [List.getElem?_set]
        split
        · rw [if_pos (by
            have := List.getElem?_eq_some_iff.1 hi
            obtain ⟨h, _⟩ := this
            omega)]
        · exact hi
      · exact hi
    · rcases List.mem_cons.1 hw with rfl | hw
      · apply h2
        rw [hc, if_pos rfl, List.getElem?_set]
        simp [hk]
      · exact h3 w hw hc (by rw [hl]; exact hk)
theorem markB_len (c : L22Word → Bool) (key : L22Word → Int) (L : List L22Word) : (markB c key L).length = 64 := by
  unfold markB; rw [(mark_fold c key L _).1]; simp
theorem markB_mem {c : L22Word → Bool} {key : L22Word → Int} {L : List L22Word} {w : L22Word} (hw : w ∈ L) (hc : c w = true) (hk : (key w).toNat < 64) : (markB c key L)[(key w).toNat]? = some true := by
  unfold markB; exact (mark_fold c key L _).2.2 w hw hc (by simpa using hk)
theorem markB_succ (c : L22Word → Bool) (key : L22Word → Int) {L : List L22Word} {k : Nat} (hk : k < L.length) : markB c key (L.take (k + 1)) = if c L[k] then (markB c key (L.take k)).set (key L[k]).toNat true else markB c key (L.take k) := by
  unfold markB
  rw [foldl_take_succ hk]
/-! ### how many -/
def cntB (l : List Bool) : Nat := (l.filter id).length
theorem many_eq (l : List Bool) (hl : l.length = 64) : tL22Many l = some (cntB l : Int) := by
  unfold tL22Many
  have hloop : Loop (tL22ManyL1 l) (0, 0) = some (cntB l : Int) := by
    refine Gives.eq (Gives.count (fun k => ((((l.take k).filter id).length : Int), (k : Int))) l.length (fun _ => True) (by simp) trivial (fun k hk _ => ?_) (fun _ => ?_))
    · unfold tL22ManyL1
      dsimp only
      have hle : ((l.take k).filter id).length ≤ l.length := filter_take_le
      rw [if_pos (by omega), ix_nat hk]
      rw [filter_take_succ hk]
      cases hb : l[k] with
      | false =>
        rw [if_neg (by decide), bd_s, wrap64 (by omega) (by omega)]
        exact .mk ⟨by simp, trivial⟩
      | true =>
        rw [if_pos rfl, wrap64 (x := (((l.take k).filter id).length : Int) + 1) (by omega) (by omega), bd_s, wrap64 (by omega) (by omega)]
        exact .mk ⟨by simp, trivial⟩
    · unfold tL22ManyL1
      dsimp only
      rw [if_neg (by omega)]
      refine .mk ?_
      show ((((l.take l.length).filter id).length : Int)) = (cntB l : Int)
      rw [List.take_length]; rfl
  rw [hloop]; rfl
/-- numbers that stand in order, all of them marked, are no more than the marks -/
theorem cnt_ge {M : List Bool} : ∀ {L : List Nat}, L.Pairwise (· < ·) → (∀ k ∈ L, M[k]? = some true) → L.length ≤ cntB M := by
  induction M with
  | nil =>
    intro L _ h
    cases L with
    | nil => exact Nat.zero_le _
    | cons k r => have := h k (by simp); simp at this
  | cons b M ih =>
    intro L hp h
    -- those that are not 0, one less
    have key : ∀ L : List Nat, L.Pairwise (· < ·) → (∀ k ∈ L, 0 < k) → (∀ k ∈ L, (b :: M)[k]? = some true) → L.length ≤ cntB M := by
      intro L hp h0 h
      have h1 := ih (L := L.map (· - 1)) (by
        rw [List.pairwise_map]
        refine hp.imp_of_mem fun {x y} hx hy hxy => ?_
        have := h0 x hx
        omega) (by
        intro k hk
        obtain ⟨j, hj, rfl⟩ := List.mem_map.1 hk
        have h2 := h j hj
        have h3 := h0 j hj
        obtain ⟨m, rfl⟩ : ∃ m, j = m + 1 := ⟨j - 1, by omega⟩
        simpa using h2)
      simpa using h1
    cases L with
    | nil => exact Nat.zero_le _
    | cons k r =>
      have hpr := List.pairwise_cons.1 hp
      have hle : cntB M ≤ cntB (b :: M) := by unfold cntB; cases b <;> simp
      by_cases hk : k = 0
      · subst hk
        have hb : b = true := by have := h 0 (by simp); simpa using this
        subst hb
        have := key r hpr.2 (fun x hx => hpr.1 x hx) (fun x hx => h x (by simp [hx]))
        have e : cntB (true :: M) = cntB M + 1 := by unfold cntB; simp
        simp only [List.length_cons]
        omega
      · have := key (k :: r) hp (fun x hx => by
          rcases List.mem_cons.1 hx with rfl | hx
          · omega
          · have := hpr.1 x hx; omega) h
        omega
/-- votes of unlike replicas, each of them marked -/
theorem votes_le {L : List ApiAccept} (h : RightV L) {v : Int} {x : List UInt8} {M : List Bool} (hm : ∀ e ∈ L, e.View = v → e.Value = x → M[e.By.toNat]? = some true) : cntV L v x ≤ cntB M := by
  have hp : ((L.filter (hitV v x)).map fun e => e.By.toNat).Pairwise (· < ·) := by
    rw [List.pairwise_map]
    have h1 : (L.filter (hitV v x)).Pairwise (fun a b => a.By < b.By) := List.Pairwise.sublist List.filter_sublist h.2
    refine h1.imp_of_mem fun {a b} ha hb hab => ?_
    have := (h.1 a (List.mem_filter.1 ha).1).1
    omega
  have := cnt_ge hp (M := M) (by
    intro k hk
    obtain ⟨e, he, rfl⟩ := List.mem_map.1 hk
    obtain ⟨h1, h2⟩ := List.mem_filter.1 he
    simp only [hitV, Bool.and_eq_true, decide_eq_true_eq] at h2
    exact hm e h1 h2.1 h2.2)
  simpa [cntV] using this
/-! ### what is said -/
section
variable (s : SizeSize) (hs : SizeOK s) (x : List UInt8)
def sayT (w : L22Word) : Bool := decide (w.Kind = 2 ∧ 0 ≤ w.By ∧ w.By < nOf s ∧ w.A.Value = x)
def sayA (v : Int) (w : L22Word) : Bool := decide (w.Kind = 0 ∧ 0 ≤ w.A.By ∧ w.A.By < nOf s ∧ w.A.View = v ∧ w.A.Value = x)
open Classical in
noncomputable def sayC (v : Int) (w : L22Word) : Bool := decide (w.Kind = 1 ∧ 0 ≤ w.By ∧ w.By < nOf s ∧ RightP s w.P ∧ ∃ y ∈ w.P.head?, y.View = v ∧ y.Value = x)
include hs
theorem n26 : nOf s ≤ 26 ∧ 1 ≤ nOf s := by have h1 := hs.f1; have h2 := hs.f5; have h3 := hs.t0; have h4 := hs.tf; unfold nOf; omega
theorem said_loop1 (L : List L22Word) (hl : L.length < 2 ^ 60) : Loop (tL22SaidL1 L x (nOf s)) (List.replicate (Int.toNat 64) false, 0) = some (markB (sayT s x) (·.By) L) := by
  have hn := n26 s hs
  refine Gives.eq (Gives.count (fun k => (markB (sayT s x) (·.By) (L.take k), (k : Int))) L.length (fun _ => True) rfl trivial (fun k hk _ => ?_) (fun _ => ?_))
  · unfold tL22SaidL1
    dsimp only
    rw [if_pos (by omega), ix_nat hk]
    have hw : (if L[k].Kind = 2 then if (0 : Int) ≤ L[k].By then if L[k].By < nOf s then some (decide (L[k].A.Value = x)) else some false else some false else some false) = some (sayT s x L[k]) := by
      unfold sayT
      by_cases c1 : L[k].Kind = 2 <;> by_cases c2 : (0 : Int) ≤ L[k].By <;> by_cases c3 : L[k].By < nOf s <;> simp [c1, c2, c3]
    rw [hw, bd_s, markB_succ _ _ hk]
    cases hb : sayT s x L[k] with
    | false =>
      rw [if_neg (by decide), bd_s, if_neg (by decide), wrap64 (by omega) (by omega)]
      exact .mk ⟨rfl, trivial⟩
    | true =>
      have h1 := of_decide_eq_true hb
      rw [if_pos rfl, ix_int h1.2.1 (by rw [markB_len]; omega), bd_s, if_pos rfl, wrap64 (by omega) (by omega)]
      exact .mk ⟨rfl, trivial⟩
  · unfold tL22SaidL1
    dsimp only
    rw [if_neg (by omega)]
    exact .mk (by rw [List.take_length])
open Classical in
theorem said_loop2 (L : List L22Word) (hl : L.length < 2 ^ 60) (hP : ∀ w ∈ L, w.P.length < 2 ^ 32) (v : Int) : Loop (tL22SaidL2 s L x (nOf s) v) (List.replicate (Int.toNat 64) false, List.replicate (Int.toNat 64) false, 0) = some (markB (sayA s x v) (·.A.By) L, markB (sayC s x v) (·.By) L) := by
  have hn := n26 s hs
  refine Gives.eq (Gives.count (fun k => (markB (sayA s x v) (·.A.By) (L.take k), markB (sayC s x v) (·.By) (L.take k), (k : Int))) L.length (fun _ => True) rfl trivial (fun k hk _ => ?_) (fun _ => ?_))
  · unfold tL22SaidL2
    dsimp only
    rw [if_pos (by omega), ix_nat hk]
    have hw : (if L[k].Kind = 0 then if (0 : Int) ≤ L[k].A.By then if L[k].A.By < nOf s then if L[k].A.View = v then some (decide (L[k].A.Value = x)) else some false else some false else some false else some false) = some (sayA s x v L[k]) := by
      unfold sayA
      by_cases c1 : L[k].Kind = 0 <;> by_cases c2 : (0 : Int) ≤ L[k].A.By <;> by_cases c3 : L[k].A.By < nOf s <;> by_cases c4 : L[k].A.View = v <;> simp [c1, c2, c3, c4]
    have hz : (if L[k].Kind = 1 then if (0 : Int) ≤ L[k].By then if L[k].By < nOf s then bd (tL22Sized s) fun rA3 => bd (tR19Right rA3 L[k].P) fun rA4 => if rA4 then ix L[k].P 0 fun y9 => if y9.View = v then ix L[k].P 0 fun y10 => some (decide (y10.Value = x)) else some false else some false else some false else some false else some false) = some (sayC s x v L[k]) := by
      unfold sayC
      by_cases c1 : L[k].Kind = 1
      rotate_left
      · simp [c1]
      by_cases c2 : (0 : Int) ≤ L[k].By
      rotate_left
      · simp [c1, c2]
      by_cases c3 : L[k].By < nOf s
      rotate_left
      · simp [c1, c2, c3]
      rw [if_pos c1, if_pos c2, if_pos c3, sizedL_eq, bd_s]
      obtain ⟨b, eb, hb⟩ := r19right_eq s L[k].P (hP _ (List.getElem_mem hk))
      rw [eb, bd_s]
      cases b with
      | false =>
        have : ¬ RightP s L[k].P := fun h => by have := hb.2 h; cases this
        rw [if_neg (by decide), decide_eq_false (fun h => this h.2.2.2.1)]
      | true =>
        have hp := hb.1 rfl
        rw [if_pos rfl]
        cases hpp : L[k].P with
        | nil => have h1 := hp.len; have h2 := hs.f1; have h3 := hs.t0; rw [hpp] at h1; simp only [List.length_nil] at h1; omega
        | cons y r =>
          rw [hpp] at hp
          rw [ix_zero (by simp)]
          simp only [List.getElem_cons_zero]
          by_cases c4 : y.View = v
          · rw [if_pos c4, ix_zero (by simp)]
            simp only [List.getElem_cons_zero]
            congr 1
            rw [decide_eq_decide]
            exact ⟨fun h => ⟨c1, c2, c3, hp, y, by simp, c4, h⟩, fun ⟨_, _, _, _, z, hz, _, h⟩ => by simp at hz; subst hz; exact h⟩
          · rw [if_neg c4, decide_eq_false]
            rintro ⟨_, _, _, _, z, hz, h, _⟩
            simp at hz; subst hz; exact c4 h
    rw [hw, hz, bd_s, markB_succ _ _ hk, markB_succ _ _ hk]
    have e1 : (if sayA s x v L[k] = true then ix (markB (sayA s x v) (·.A.By) (L.take k)) L[k].A.By fun y8 => some ((markB (sayA s x v) (·.A.By) (L.take k)).set (Int.toNat L[k].A.By) true) else some (markB (sayA s x v) (·.A.By) (L.take k))) = some (if sayA s x v L[k] = true then (markB (sayA s x v) (·.A.By) (L.take k)).set (Int.toNat L[k].A.By) true else markB (sayA s x v) (·.A.By) (L.take k)) := by
      by_cases hb : sayA s x v L[k] = true
      · have h1 := of_decide_eq_true hb
        rw [if_pos hb, if_pos hb, ix_int h1.2.1 (by rw [markB_len]; omega)]
      · rw [if_neg hb, if_neg hb]
    have e2 : (if sayC s x v L[k] = true then ix (markB (sayC s x v) (·.By) (L.take k)) L[k].By fun y8 => some ((markB (sayC s x v) (·.By) (L.take k)).set (Int.toNat L[k].By) true) else some (markB (sayC s x v) (·.By) (L.take k))) = some (if sayC s x v L[k] = true then (markB (sayC s x v) (·.By) (L.take k)).set (Int.toNat L[k].By) true else markB (sayC s x v) (·.By) (L.take k)) := by
      by_cases hb : sayC s x v L[k] = true
      · have h1 := of_decide_eq_true hb
        rw [if_pos hb, if_pos hb, ix_int h1.2.1 (by rw [markB_len]; omega)]
      · rw [if_neg hb, if_neg hb]
    rw [e1, bd_s, bd_s, e2, bd_s, wrap64 (by omega) (by omega)]
    exact .mk ⟨rfl, trivial⟩
  · unfold tL22SaidL2
    dsimp only
    rw [if_neg (by omega)]
    exact .mk (by rw [List.take_length])
/-- the view that a word speaks of -/
def viewW (w : L22Word) : Int := if w.Kind = 1 then (match w.P with | [] => w.A.View | y :: _ => y.View) else w.A.View
def enoughV (L : List L22Word) (v : Int) : Prop := 3 * s.F + s.T + 1 ≤ (cntB (markB (sayA s x v) (·.A.By) L) : Int) ∨ 2 * s.F + s.T + 1 ≤ (cntB (markB (sayC s x v) (·.By) L) : Int)
def enoughT (L : List L22Word) : Prop := s.F + 1 ≤ (cntB (markB (sayT s x) (·.By) L) : Int)
open Classical in
theorem said_true (L : List L22Word) (hl : L.length < 2 ^ 60) (hP : ∀ w ∈ L, w.P.length < 2 ^ 32) (h : enoughT s x L ∨ ∃ w ∈ L, enoughV s x L (viewW w)) : tL22Said s L x = some true := by
  have hn := n26 s hs
  unfold tL22Said
  rw [sizeN_eq hs, bd_s]
  have en : 3 * s.F + 2 * s.T + 1 = nOf s := rfl
  rw [en, if_neg (by omega), if_pos (by decide), said_loop1 s hs x L hl, bd_s, many_eq _ (markB_len _ _ _), bd_s, sizeWeak_eq hs, bd_s]
  by_cases hT : enoughT s x L
  · unfold enoughT at hT
    rw [if_pos hT]
  · obtain ⟨w, hw, hV⟩ := h.resolve_left hT
    unfold enoughT at hT
    rw [if_neg hT]
    obtain ⟨i, hi, rfl⟩ := List.mem_iff_getElem.1 hw
    have hloop : Gives (Loop (tL22SaidL3 s L x (nOf s)) 0) fun r => r = .inr true := by
      refine Gives.count (fun k => (k : Int)) L.length (fun k => k ≤ i) rfl (Nat.zero_le _) (fun k hk hki => ?_) (fun h => by omega)
      unfold tL22SaidL3
      rw [if_pos (by omega), ix_nat hk, ix_nat hk]
      have hz : (bd (bd (if L[k].Kind = 1 then ix L (k : Int) fun y4 => some (decide ((0 : Int) < (y4.P.length : Int))) else some false) fun w4 => if w4 then ix L (k : Int) fun y5 => ix y5.P 0 fun y6 => some y6.View else some L[k].A.View) fun z => some z) = some (viewW L[k]) := by
        unfold viewW
        by_cases c1 : L[k].Kind = 1
        · rw [if_pos c1, if_pos c1, ix_nat hk, bd_s]
          cases hp : L[k].P with
          | nil => rfl
          | cons y r =>
            rw [decide_eq_true (by simp only [List.length_cons]; omega), if_pos rfl, ix_nat hk, hp]
            rfl
        · rw [if_neg c1, if_neg c1]; rfl
      rw [bd_id] at hz
      have hz2 : ∀ {R : Type} (K : Int → Option R), bd (if L[k].Kind = 1 then ix L (k : Int) fun y4 => some (decide ((0 : Int) < (y4.P.length : Int))) else some false) (fun w4 => bd (if w4 = true then ix L (k : Int) fun y5 => ix y5.P 0 fun y6 => some y6.View else some L[k].A.View) K) = K (viewW L[k]) := by
        intro R K
        rw [← bd_bd, hz]; rfl
      rw [hz2, if_pos (by decide), if_pos (by decide), said_loop2 s hs x L hl hP, bd_s, many_eq _ (markB_len _ _ _), bd_s, sizeFast_eq hs, bd_s]
      dsimp only
      rw [many_eq _ (markB_len _ _ _), sizeProof_eq hs, bd_s, bd_s]
      have hif : (if 3 * s.F + s.T + 1 ≤ (cntB (markB (sayA s x (viewW L[k])) (·.A.By) L) : Int) then some true else some (decide (2 * s.F + s.T + 1 ≤ (cntB (markB (sayC s x (viewW L[k])) (·.By) L) : Int)))) = some (decide (enoughV s x L (viewW L[k]))) := by
        unfold enoughV
        by_cases c1 : 3 * s.F + s.T + 1 ≤ (cntB (markB (sayA s x (viewW L[k])) (·.A.By) L) : Int) <;> simp [c1]
      rw [hif, bd_s]
      by_cases hE : enoughV s x L (viewW L[k])
      · rw [decide_eq_true hE, if_pos rfl]
        exact .mk rfl
      · have hne : k ≠ i := fun e => hE (by subst e; exact hV)
        rw [decide_eq_false hE, if_neg (by decide), wrap64 (by omega) (by omega)]
        exact .mk ⟨by simp, by omega⟩
    obtain ⟨r, er, rfl⟩ := hloop
    rw [er, bd_s]
end
end Dn.S
