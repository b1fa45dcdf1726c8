import Derived.Test.YtmdlghpieagfhaaGreatDnPLearn3
/-
  Learners: what enough say alike is learned; LearnerLearns. Conditions: none.
-/
open Go Dn
set_option linter.unusedVariables false
set_option linter.unusedSimpArgs false
set_option linter.unusedSectionVars false
namespace Dn.S
theorem Tn {L:List aa} {a x:aa} (hs:qh vk L) (h:x∈(iS L a).1):x∈L∨(x=a∧tm a):=by
 unfold iS at h
 split at h
 ·rename_i hc
  rcases (wL hs).1 h with h|h
  ·exact .inr ⟨h,hc.1⟩
  ·exact .inl h.1
 ·exact .inl h
theorem PA {s:af} {L:List aa} {last:Int} {a:aa} (h:Hn s L last) (hb:a.By<vl s) (hv:a.View≤last):Hn s (iS L a).1 last:=by
 refine ⟨fun e he=> ?_,q0 h.2⟩
 rcases Tn h.2.2 he with h1|⟨rfl,_⟩
 ·exact h.1 e h1
 ·exact ⟨hb,hv⟩
theorem Ho {L:List aa} {bM:Int} {z:aa} (h:kN L bM=some z):z∈L∧1≤bM∧bM≤(AL L z.View z.Value:Int):=by
 have:=zb L bM
 rw [h] at this
 refine ⟨this.1,?_⟩
 have h2:=this.2.1
 unfold lq at h2
 simpa using h2
theorem Fs {l:ar} (h:uH l) (t:List aa) (ht: ∀e∈t,tm e) (n:Int):uH (kO l t n):=by
 unfold kO
 cases hb:kN t n with
 |none=>exact h
 |some z=>exact ⟨h.sz,(ht z (Ho hb).1).2.2.2,fun h=>(by cases h),h.acc,h.Wv,h.told⟩
theorem CP {l:ar} {a:aa} (h: ¬rY l a):l.ch=false∧a.By<vl l.S∧tm a:=by
 refine ⟨?_,?_,?_⟩
 ·cases hd:l.ch with
  |false=>rfl
  |true=>exact absurd (.inl hd) h
 ·exact Int.lt_of_not_ge fun h'=>h (.inr (.inl h'))
 ·exact Decidable.byContradiction fun h'=>h (.inr (.inr h'))
theorem CQ {l:ar} (h:uH l) (a:aa):uH (ft l a):=by
 unfold ft
 by_cases hd:rY l a
 ·rw [if_pos hd];exact h
 ·rw [if_neg hd]
  obtain ⟨h0,h1,h2⟩:=CP hd
  have hw:=PA h.acc h1 h2.2.2.1
  exact Fs (l:=⟨l.S,⟨(iS l.aZ.L a).1⟩,l.bA,l.Told,l.ch,l.Value⟩) ⟨h.sz,h.len,h.val,hw,h.Wv,h.told⟩ _ hw.2.1 _
section
variable {s:af} {fr v:Int} {x:List UInt8} (hs:cX s) (h0:0≤fr) (hv:0≤v) (M5:v≤100000) (hx:x.length≤6000)
include hs h0 hv M5 hx
end
theorem qi {L:List aa} {s:af} {last:Int} (hs:cX s) (h:Hn s L last):L.length<2^31:=by
 have h1:=hs.f1;have h2:=hs.t0;have h3:=hs.f5;have h4:=hs.tf
 have: ∀k (hk:k<L.length),(k:Int)≤L[k].By:=by
  intro k
  induction k with
  |zero=>intro hk;exact (h.2.1 _ (List.getElem_mem hk)).1
  |succ k ih=>
   intro hk
   have h5:=ih (by omega)
   have h6:L[k].By<L[k+1].By:=qh.lt (key:=vk) h.2.2 hk (Nat.lt_succ_self k)
   omega
 by_cases hl:L.length=0
 ·omega
 ·have h5:=this (L.length-1) (by omega)
  have h6:=(h.1 _ (List.getElem_mem (show L.length-1<L.length by omega))).1
  unfold vl at h6
  omega
end Dn.S
