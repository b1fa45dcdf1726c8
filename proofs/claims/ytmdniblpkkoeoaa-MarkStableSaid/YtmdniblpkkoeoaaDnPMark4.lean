import Derived.Test.YtmdniblpkkoeoaaDnPMark3
/-
  Marks: what is stable is true. Conditions: none.
-/
open Go Dn
set_option linter.unusedVariables false
set_option linter.unusedSimpArgs false
namespace Dn.S
theorem isByte_wrap (x : Int) : isByte (IntKind.wrap .u8 x) = true := by
  have h : IntKind.wrap .u8 x = x % 256 := by simp [IntKind.wrap, IntKind.signed, IntKind.bits]
  unfold isByte
  rw [h, decide_eq_true_eq]
  have h1 : (UInt8.ofNat (x % 256).toNat).toNat = (x % 256).toNat % 256 := by simp
  rw [h1]; omega
def truthH (slot : Int) : Hash := ((Hash.zero.put (Int.toNat 0) (UInt8.ofNat (Int.toNat (IntKind.wrap .u8 slot)))).put (Int.toNat 1) (UInt8.ofNat (Int.toNat (IntKind.wrap .u8 (IntKind.wrap .i64 (Int.tdiv slot 256)))))).put (Int.toNat 31) (UInt8.ofNat (Int.toNat 1))
theorem truth_eq (slot : Int) : tL26Truth slot = some (truthH slot) := by
  unfold tL26Truth
  simp only [isByte_wrap, show isByte 1 = true by decide, show ((0 : Int) ≤ 0 ∧ (0 : Int) < 32) by decide, show ((0 : Int) ≤ 1 ∧ (1 : Int) < 32) by decide, show ((0 : Int) ≤ 31 ∧ (31 : Int) < 32) by decide, and_self, if_true, show (!decide ((256 : Int) = 0)) = true by decide]
  rfl
def badAt (bad : List Bool) (i : Int) : Bool := decide (0 ≤ i) && (bad[i.toNat]?).getD false
theorem cnt_range (l : List Bool) : l.countP id = ((List.range l.length).filter fun i => (l[i]?).getD false).length := by
  have : l = (List.range l.length).map fun i => (l[i]?).getD false := by
    apply List.ext_getElem
    · simp
    · intro i h1 h2; simp [h1]
  conv => lhs; rw [this]
  rw [List.countP_map, List.countP_eq_length_filter]; rfl
structure JM (s : SizeSize) (bad : List Bool) (m : MarkMarks) : Prop where
  rm : RM m
  sz : m.S = s
  good : ∀ x ∈ m.L, badAt bad x.By = false → x.Sum = truthH x.Slot
  stab : 0 < m.Stable → m.Sum = truthH m.Stable
theorem vote {s : SizeSize} {bad : List Bool} {L : List MarkMark} (hi : IncK bk L) (hm : ∀ x ∈ L, MayX s x) (hg : ∀ x ∈ L, badAt bad x.By = false → x.Sum = truthH x.Slot) (hlen : (bad.length : Int) = nOf s) (hb : (bad.countP id : Int) ≤ s.F) {slot : Int} {sum : Hash} (hc : s.F + 1 ≤ (L.countP (isSay slot sum) : Int)) : sum = truthH slot := by
  refine Classical.byContradiction fun hne => ?_
  have hall : ∀ x ∈ L.filter (isSay slot sum), badAt bad x.By = true := by
    intro x hx
    rw [List.mem_filter] at hx
    cases hbx : badAt bad x.By with
    | true => rfl
    | false =>
      have h1 := hg x hx.1 hbx
      have h2 := hx.2
      unfold isSay at h2
      simp only [Bool.and_eq_true, decide_eq_true_eq] at h2
      exact absurd (by rw [← h2.2, h1, h2.1]) hne
  have hnd : ((L.filter (isSay slot sum)).map fun x => x.By.toNat).Nodup := by
    unfold List.Nodup
    rw [List.pairwise_map]
    refine List.Pairwise.imp_of_mem (fun {a b} ha hb hlt => ?_) (List.Pairwise.filter _ hi)
    have h1 := (hm a (List.mem_filter.1 ha).1).1
    have hlt : a.By < b.By := hlt
    omega
  have hsub : ∀ i ∈ (L.filter (isSay slot sum)).map fun x => x.By.toNat, i ∈ (List.range bad.length).filter fun i => (bad[i]?).getD false := by
    intro i hi
    obtain ⟨x, hx, rfl⟩ := List.mem_map.1 hi
    have h1 := hall x hx
    have h2 := hm x (List.mem_filter.1 hx).1
    unfold badAt at h1
    simp only [Bool.and_eq_true, decide_eq_true_eq] at h1
    rw [List.mem_filter, List.mem_range]
    have := h2.2.1
    exact ⟨by omega, h1.2⟩
  have hle := nodup_len hnd hsub
  rw [List.length_map, ← List.countP_eq_length_filter, ← cnt_range] at hle
  omega
theorem hearM_stable (m : MarkMarks) (x : MarkMark) : m.Stable ≤ (hearM m x).1.Stable ∧ (hearM m x).2 = decide (m.Stable < (hearM m x).1.Stable) := by
  unfold hearM
  split
  · split
    · exact ⟨by simp, by simp⟩
    · rename_i h
      have : m.Stable < x.Slot := by omega
      exact ⟨by simp only; omega, by simp [this]⟩
  · exact ⟨by simp, by simp⟩
theorem JM.hear {s : SizeSize} {bad : List Bool} {m : MarkMarks} (h : JM s bad m) (hlen : (bad.length : Int) = nOf s) (hb : (bad.countP id : Int) ≤ s.F) (x : MarkMark) (hx : badAt bad x.By = false → x.Sum = truthH x.Slot) : JM s bad (hearM m x).1 := by
  have hr := h.rm.hear x
  have hsz := h.sz
  by_cases hc : MayX m.S x ∧ newer m.L x = false
  · have hgood : ∀ y ∈ putK bk m.L x, badAt bad y.By = false → y.Sum = truthH y.Slot := by
      intro y hy
      rcases (putK_mem h.rm.inc).1 hy with rfl | ⟨hy, _⟩
      · exact hx
      · exact h.good y hy
    have hmay : ∀ y ∈ putK bk m.L x, MayX s y := by
      intro y hy
      rw [← hsz]
      rcases (putK_mem h.rm.inc).1 hy with rfl | ⟨hy, _⟩
      · exact hc.1
      · exact h.rm.all y hy
    unfold hearM at hr ⊢
    rw [if_pos hc] at hr ⊢
    by_cases h2 : x.Slot ≤ m.Stable ∨ ((putK bk m.L x).countP (isSay x.Slot x.Sum) : Int) < 2 * m.S.F + m.S.T + 1
    · rw [if_pos h2] at hr ⊢
      exact ⟨hr, hsz, hgood, h.stab⟩
    · rw [if_neg h2] at hr ⊢
      refine ⟨hr, hsz, hgood, fun _ => ?_⟩
      have h3 : ¬ ((putK bk m.L x).countP (isSay x.Slot x.Sum) : Int) < 2 * m.S.F + m.S.T + 1 := fun hh => h2 (.inr hh)
      have := h.rm.sz.f1; have := h.rm.sz.t0
      rw [hsz] at *
      have hv := vote (putK_inc h.rm.inc) hmay hgood hlen hb (slot := x.Slot) (sum := x.Sum) (by omega)
      exact hv
  · unfold hearM
    rw [if_neg hc]
    exact h
theorem cntBad_eq (bad : List Bool) (hl : bad.length < 2 ^ 60) : Loop (tL26MarkStableL1 bad) (0, 0) = some (bad.countP id : Int) := by
  refine Gives.eq (Gives.count (fun k => (((bad.take k).countP id : Int), (k : Int))) bad.length (fun _ => True) (by simp) trivial (fun k hk _ => ?_) (fun _ => ?_))
  · unfold tL26MarkStableL1
    have hc := List.countP_le_length (p := id) (l := bad.take k)
    rw [List.length_take] at hc
    simp only [show ((k : Int) < (bad.length : Int)) by omega, if_true, ix_nat hk, bd_s]
    rw [wrap64 (by omega) (by omega), wrap64 (by omega) (by omega), take_succ hk, List.countP_append, List.countP_singleton]
    cases bad[k] <;> exact .mk ⟨by simp, trivial⟩
  · unfold tL26MarkStableL1
    simp only [show ¬ ((bad.length : Int) < (bad.length : Int)) by omega, if_false, List.take_length]
    exact .mk rfl
theorem markStable_all (s : SizeSize) (bad : List Bool) (script : List MarkMark) : tL26MarkStable s bad script = some true := by
  refine Gives.eq ?_
  unfold tL26MarkStable
  rw [newM_eq]
  by_cases hs : SizeOK s
  case neg => simp only [hs, if_false, bd_s, show ¬ ((1 : Int) = 0) by decide, decide_false, Bool.not_false, if_true, evL26Alive]; exact .mk rfl
  simp only [hs, if_true, bd_s, decide_true, Bool.not_true, Bool.false_eq_true, if_false, sizeN_eq hs]
  have hn26 : 3 * s.F + 2 * s.T + 1 ≤ 26 := by have := hs.f5; have := hs.tf; omega
  by_cases hlen : (bad.length : Int) = 3 * s.F + 2 * s.T + 1
  case neg => simp only [hlen, decide_false, Bool.not_false, if_true, bd_s, evL26Alive]; exact .mk rfl
  by_cases hsc : (100 : Int) < (script.length : Int)
  · simp only [hlen, decide_true, Bool.not_true, Bool.false_eq_true, if_false, hsc, bd_s, if_true, evL26Alive]; exact .mk rfl
  simp only [hlen, decide_true, Bool.not_true, Bool.false_eq_true, if_false, hsc, decide_false, bd_s, cntBad_eq bad (by omega)]
  by_cases hb : s.F < (bad.countP id : Int)
  · simp only [hb, if_true, evL26Alive, bd_s]; exact .mk rfl
  simp only [hb, if_false]
  refine Gives.bd (P := fun r => r = .inl ()) ?_ ?_
  · refine Gives.loop (fun st => ∃ m, ∃ k : Nat, JM s bad m ∧ st = (m.S.F, m.S.T, m.L, m.Stable, m.Sum, (k : Int)) ∧ k ≤ script.length) (fun st => script.length - st.2.2.2.2.2.toNat) ?_ ?_
    · exact ⟨⟨s, [], 0, Hash.zero⟩, 0, ⟨⟨hs, by simp, by simp, fun _ => rfl, by simp, by simp [IncK]⟩, rfl, by simp, by simp⟩, rfl, by omega⟩
    · rintro st ⟨m, k, hJ, rfl, hk⟩
      unfold tL26MarkStableL2
      by_cases hlt : k < script.length
      case neg =>
        simp only [show ¬ ((k : Int) < (script.length : Int)) by omega, if_false]
        exact .mk rfl
      simp only [show ((k : Int) < (script.length : Int)) by omega, if_true, ix_nat hlt]
      obtain ⟨y, hy⟩ : ∃ y, y = script[k] := ⟨_, rfl⟩
      rw [← hy]
      have hw4 : (if y.By < 0 then some true else if (bad.length : Int) ≤ y.By then some true else ix bad y.By fun y2 => some (!y2)) = some (!badAt bad y.By) := by
        unfold badAt
        by_cases g1 : y.By < 0
        · simp [g1, show ¬ 0 ≤ y.By by omega]
        by_cases g2 : (bad.length : Int) ≤ y.By
        · simp [g1, g2, show 0 ≤ y.By by omega, List.getElem?_eq_none (show bad.length ≤ y.By.toNat by omega)]
        · have hlt2 : y.By.toNat < bad.length := by omega
          simp only [g1, g2, if_false, ix_int (show 0 ≤ y.By by omega) hlt2]
          simp [show 0 ≤ y.By by omega, hlt2]
      rw [hw4]
      simp only [bd_s, truth_eq]
      obtain ⟨x, hx, hxg⟩ : ∃ x : MarkMark, (if (!badAt bad y.By) = true then some (y.By, y.Slot, truthH y.Slot) else some (y.By, y.Slot, y.Sum)) = some (x.By, x.Slot, x.Sum) ∧ (badAt bad x.By = false → x.Sum = truthH x.Slot) := by
        cases hbb : badAt bad y.By with
        | true => exact ⟨y, by simp, by rw [hbb]; simp⟩
        | false => exact ⟨⟨y.By, y.Slot, truthH y.Slot⟩, by simp, fun _ => rfl⟩
      rw [hx]
      have hN : (bad.length : Int) = nOf s := hlen
      have hJ2 := hJ.hear hN (by omega) x hxg
      have hst := hearM_stable m x
      have hl2 := hJ2.rm.len
      have e1 : tMarkHear (⟨(⟨m.S.F, m.S.T⟩ : SizeSize), m.L, m.Stable, m.Sum⟩ : MarkMarks) ⟨x.By, x.Slot, x.Sum⟩ = some (hearM m x) := hear_eq hJ.rm x
      simp only [bd_s, e1]
      generalize hearM m x = n at hJ2 hst hl2
      obtain ⟨n, b⟩ := n
      simp only at hJ2 hst hl2
      obtain ⟨hst1, hst2⟩ := hst
      obtain ⟨rr, hrr, hrr2⟩ := rightM_eq n (by omega)
      have hrt : rr = true := hrr2.2 hJ2.rm
      subst hrt
      simp only [show ¬ n.Stable < m.Stable by omega, if_false, hst2, eq_self, decide_true, Bool.not_true, Bool.false_eq_true, plainM_eq n (by omega), bd_s, hrr, trusted_eq hJ2.rm]
      have hvote : (if decide (n.S.F + 1 ≤ (n.L.countP (isSay x.Slot x.Sum) : Int)) = true then some (!decide (x.Sum = truthH x.Slot)) else some false) = some false := by
        by_cases hc : n.S.F + 1 ≤ (n.L.countP (isSay x.Slot x.Sum) : Int)
        · have hv := vote (s := s) hJ2.rm.inc (fun z hz => by rw [← hJ2.sz]; exact hJ2.rm.all z hz) hJ2.good hN (by omega) (by rw [← hJ2.sz]; exact hc)
          simp [hv]
        · simp [hc]
      have hw7 : (if 0 < n.Stable then if (!decide (n.Sum = truthH n.Stable)) = true then some true else if decide (n.S.F + 1 ≤ (n.L.countP (isSay x.Slot x.Sum) : Int)) = true then some (!decide (x.Sum = truthH x.Slot)) else some false else if decide (n.S.F + 1 ≤ (n.L.countP (isSay x.Slot x.Sum) : Int)) = true then some (!decide (x.Sum = truthH x.Slot)) else some false) = some false := by
        rw [hvote]
        by_cases h0 : 0 < n.Stable
        · simp [h0, hJ2.stab h0]
        · simp [h0]
      rw [hw7]
      simp only [bd_s, Bool.false_eq_true, if_false]
      rw [wrap64 (by omega) (by omega)]
      exact .mk ⟨⟨n, k + 1, hJ2, by simp, by omega⟩, by simp only; omega⟩
  · rintro r rfl
    simp only [evL26Alive, bd_s]; exact .mk rfl
end Dn.S
