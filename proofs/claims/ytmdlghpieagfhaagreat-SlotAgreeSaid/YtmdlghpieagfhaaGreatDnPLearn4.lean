import Derived.Test.YtmdlghpieagfhaaGreatDnPLearn3
/-
  Learners: what enough say alike is learned; LearnerLearns. Conditions: none.
-/
set_option linter.unusedVariables false
set_option linter.unusedSimpArgs false
set_option linter.unusedSectionVars false
open List renaming getElem_mem→cM
open Go Dn
namespace Dn.S
theorem AN {L:List aa}{a x:aa}(hs:o8 vk L)(h:x∈(dV L a).1):x∈L\/(x=a/\xe a):=by
 unfold dV at h;split at h
 ·rename_i hc;rcases (AF hs).1 h with h|h
  ·exact .inr ⟨h,hc.1⟩
  ·exact .inl h.1
 ·exact .inl h
theorem tI {s:ae}{L:List aa}{last:Int}{a:aa}(h:Ku s L last)(hb:a.By<mS s)(hv:a.View<=last):Ku s (dV L a).1 last:=by
 refine ⟨λe he=> ?_,uB h.2⟩;rcases AN h.2.2 he with h1|⟨rfl,_⟩
 ·exact h.1 e h1
 ·exact ⟨hb,hv⟩
theorem M2 {L:List aa}{cg:Int}{z:aa}(h:p0 L cg=some z):z∈L/\1<=cg/\cg<=(AG L z.View z.Value:Int):=by have:=CO L cg;rw [h] at this;refine ⟨this.1,?_⟩;have h2:=this.2.1;unfold r8 at h2;simpa using h2
theorem uG {l:aq}(h:lN l)(t:List aa)(ht: ∀e∈t,xe e)(n:Int):lN (eu l t n):=by
 unfold eu;cases hb:p0 t n with
 |none=>exact h
 |some z=>exact ⟨h.sz,(ht z (M2 hb).1).2.2.2,λh=>(by cases h),h.acc,h.zk,h.told⟩
theorem jx {l:aq}{a:aa}(h: ¬mP l a):l.bQ=false/\a.By<mS l.S/\xe a:=by
 refine ⟨?_,?_,?_⟩
 ·cases hd:l.bQ with
  |false=>rfl
  |true=>exact absurd (.inl hd) h
 ·exact Int.lt_of_not_ge λh'=>h (.inr (.inl h'))
 ·exact Decidable.byContradiction λh'=>h (.inr (.inr h'))
theorem yR {l:aq}(h:lN l)(a:aa):lN (da l a):=by
 unfold da;by_cases hd:mP l a
 ·rw [if_pos hd];exact h
 ·rw [if_neg hd];obtain ⟨h0,h1,h2⟩:=jx hd;have hw:=tI h.acc h1 h2.2.2.1;exact uG (l:=⟨l.S,⟨(dV l.aY.L a).1⟩,l.bn,l.Told,l.bQ,l.Value⟩) ⟨h.sz,h.len,h.val,hw,h.zk,h.told⟩ _ hw.2.1 _
theorem Ry {l:aq}(h:lN l)(xh:Int)(v:List UInt8):lN (AM l xh v):=by
 unfold AM;by_cases hd:mP l ⟨xh,0,v⟩
 ·rw [if_pos hd];exact h
 ·rw [if_neg hd];obtain ⟨h0,h1,h2⟩:=jx hd;have hw:=tI (a:=⟨xh,0,v⟩) h.told h1 (Int.le_refl 0);exact uG (l:=⟨l.S,l.aY,l.bn,⟨(dV l.Told.L ⟨xh,0,v⟩).1⟩,l.bQ,l.Value⟩) ⟨h.sz,h.len,h.val,h.acc,h.zk,hw⟩ _ hw.2.1 _
theorem FG {l:aq}(h:lN l)(xh:Int)(p:List aa):lN (jb l xh p):=by
 unfold jb;split
 ·cases p with
  |nil=>exact h
  |cons x r=>
   dsimp only;by_cases hd:mP l ⟨xh,x.View,x.Value⟩
   ·rw [if_pos hd];exact h
   ·rw [if_neg hd];obtain ⟨h0,h1,h2⟩:=jx hd;have hw:=tI (a:=⟨xh,x.View,x.Value⟩) h.zk h1 h2.2.2.1;exact uG (l:=⟨l.S,l.aY,⟨(dV l.bn.L ⟨xh,x.View,x.Value⟩).1⟩,l.Told,l.bQ,l.Value⟩) ⟨h.sz,h.len,h.val,h.acc,hw,h.told⟩ _ hw.2.1 _
 ·exact h
section
variable {s:ae}{fr v:Int}{x:List UInt8}(hs:cC s)(h0:0<=fr)(hv:0<=v)(FL:v<=100000)(hx:x.length<=6000)
include hs h0 hv FL hx
end
theorem td {L:List aa}{s:ae}{last:Int}(hs:cC s)(h:Ku s L last):L.length<2^31:=by
 have h1:=hs.f1;have h2:=hs.t0;have h3:=hs.f5;have h4:=hs.tf;have: ∀k (hk:k<L.length),(k:Int)<=L[k].By:=by
  intro k;induction k with
  |zero=>intro hk;exact (h.2.1 _ (cM hk)).1
  |succ k ih=>intro hk;have h5:=ih (by omega);have h6:L[k].By<L[k+1].By:=o8.lt (key:=vk) h.2.2 hk (Nat.lt_succ_self k);omega
 by_cases hl:L.length=0
 ·omega
 ·have h5:=this (L.length-1) (by omega);have h6:=(h.1 _ (cM (show L.length-1<L.length by omega))).1;unfold mS at h6;omega
end Dn.S
