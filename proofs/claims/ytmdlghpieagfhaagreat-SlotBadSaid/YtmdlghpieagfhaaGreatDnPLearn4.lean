import Derived.Test.YtmdlghpieagfhaaGreatDnPLearn3
/-
  Learners: what enough say alike is learned; LearnerLearns. Conditions: none.
-/
set_option linter.unusedVariables false
set_option linter.unusedSimpArgs false
set_option linter.unusedSectionVars false
open List renaming getElem_mem→eJ
open Go Dn
namespace Dn.S
theorem Zu {L:List aa}{a x:aa}(hs:pc vk L)(h:x∈(ia L a).1):x∈L\/(x=a/\sF a):=by
 unfold ia at h;split at h
 ·rename_i hc;rcases (Ay hs).1 h with h|h
  ·exact .inr ⟨h,hc.1⟩
  ·exact .inl h.1
 ·exact .inl h
theorem FM {s:af}{L:List aa}{last:Int}{a:aa}(h:Mv s L last)(hb:a.By<uI s)(hv:a.View<=last):Mv s (ia L a).1 last:=by
 refine ⟨λe he=> ?_,uG h.2⟩;rcases Zu h.2.2 he with h1|⟨rfl,_⟩
 ·exact h.1 e h1
 ·exact ⟨hb,hv⟩
theorem Mx {L:List aa}{b9:Int}{z:aa}(h:lJ L b9=some z):z∈L/\1<=b9/\b9<=(zr L z.View z.Value:Int):=by have:=C2 L b9;rw [h] at this;refine ⟨this.1,?_⟩;have h2:=this.2.1;unfold nU at h2;simpa using h2
theorem uN {l:ar}(h:pe l)(t:List aa)(ht: ∀e∈t,sF e)(n:Int):pe (je l t n):=by
 unfold je;cases hb:lJ t n with
 |none=>exact h
 |some z=>exact ⟨h.sz,(ht z (Mx hb).1).2.2.2,λh=>(by cases h),h.acc,h.V5,h.told⟩
theorem sH {l:ar}{a:aa}(h: ¬pE l a):l.cq=false/\a.By<uI l.S/\sF a:=by
 refine ⟨?_,?_,?_⟩
 ·cases hd:l.cq with
  |false=>rfl
  |true=>exact absurd (.inl hd) h
 ·exact Int.lt_of_not_ge λh'=>h (.inr (.inl h'))
 ·exact Decidable.byContradiction λh'=>h (.inr (.inr h'))
theorem y9 {l:ar}(h:pe l)(a:aa):pe (ft l a):=by
 unfold ft;by_cases hd:pE l a
 ·rw [if_pos hd];exact h
 ·rw [if_neg hd];obtain ⟨h0,h1,h2⟩:=sH hd;have hw:=FM h.acc h1 h2.2.2.1;exact uN (l:=⟨l.S,⟨(ia l.bj.L a).1⟩,l.bp,l.Told,l.cq,l.Value⟩) ⟨h.sz,h.len,h.val,hw,h.V5,h.told⟩ _ hw.2.1 _
theorem Qv {l:ar}(h:pe l)(wL:Int)(v:List UInt8):pe (EK l wL v):=by
 unfold EK;by_cases hd:pE l ⟨wL,0,v⟩
 ·rw [if_pos hd];exact h
 ·rw [if_neg hd];obtain ⟨h0,h1,h2⟩:=sH hd;have hw:=FM (a:=⟨wL,0,v⟩) h.told h1 (Int.le_refl 0);exact uN (l:=⟨l.S,l.bj,l.bp,⟨(ia l.Told.L ⟨wL,0,v⟩).1⟩,l.cq,l.Value⟩) ⟨h.sz,h.len,h.val,h.acc,h.V5,hw⟩ _ hw.2.1 _
theorem FN {l:ar}(h:pe l)(wL:Int)(p:List aa):pe (ln l wL p):=by
 unfold ln;split
 ·cases p with
  |nil=>exact h
  |cons x r=>
   dsimp only;by_cases hd:pE l ⟨wL,x.View,x.Value⟩
   ·rw [if_pos hd];exact h
   ·rw [if_neg hd];obtain ⟨h0,h1,h2⟩:=sH hd;have hw:=FM (a:=⟨wL,x.View,x.Value⟩) h.V5 h1 h2.2.2.1;exact uN (l:=⟨l.S,l.bj,⟨(ia l.bp.L ⟨wL,x.View,x.Value⟩).1⟩,l.Told,l.cq,l.Value⟩) ⟨h.sz,h.len,h.val,h.acc,hw,h.told⟩ _ hw.2.1 _
 ·exact h
section
variable {s:af}{fr v:Int}{x:List UInt8}(hs:cr s)(h0:0<=fr)(hv:0<=v)(S2:v<=100000)(hx:x.length<=6000)
include hs h0 hv S2 hx
end
theorem tk {L:List aa}{s:af}{last:Int}(hs:cr s)(h:Mv s L last):L.length<2^31:=by
 have h1:=hs.f1;have h2:=hs.t0;have h3:=hs.f5;have h4:=hs.tf;have: ∀k (hk:k<L.length),(k:Int)<=L[k].By:=by
  intro k;induction k with
  |zero=>intro hk;exact (h.2.1 _ (eJ hk)).1
  |succ k ih=>intro hk;have h5:=ih (by omega);have h6:L[k].By<L[k+1].By:=pc.lt (key:=vk) h.2.2 hk (Nat.lt_succ_self k);omega
 by_cases hl:L.length=0
 ·omega
 ·have h5:=this (L.length-1) (by omega);have h6:=(h.1 _ (eJ (show L.length-1<L.length by omega))).1;unfold uI at h6;omega
end Dn.S
