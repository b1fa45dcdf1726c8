import Derived.Test.YtmdlghpieagfhaaGreatDnPLearn3
/- Learners: what enough say alike is learned; LearnerLearns. Conditions: none. -/
set_option linter.unusedVariables false
set_option linter.unusedSimpArgs false
set_option linter.unusedSectionVars false
open List renaming getElem_mem→cV
open Go Dn
namespace Dn.S
theorem uS {L:List aa}{a x:aa}(hs:oh vk L)(h:x∈(cL L a).1):x∈L\/(x=a/\tw a):=by
 unfold cL at h;split at h
 ·rename_i hc;rcases (sn hs).1 h with h|h
  ·exact .inr ⟨h,hc.1⟩
  ·exact .inl h.1
 ·exact .inl h
theorem tY {s:ae}{L:List aa}{last:Int}{a:aa}(h:KQ s L last)(hb:a.By<kz s)(hv:a.View<=last):KQ s (cL L a).1 last:=by
 refine ⟨λe he=> ?_,oW h.2⟩;rcases uS h.2.2 he with h1|⟨rfl,_⟩
 ·exact h.1 e h1
 ·exact ⟨hb,hv⟩
theorem Nv {L:List aa}{b6:Int}{z:aa}(h:ol L b6=some z):z∈L/\1<=b6/\b6<=(wJ L z.View z.Value:Int):=by have:=yO L b6;rw [h] at this;refine ⟨this.1,?_⟩;have h2:=this.2.1;unfold qI at h2;simpa using h2
theorem uT {l:ar}(h:lZ l)(t:List aa)(ht: ∀e∈t,tw e)(n:Int):lZ (dS l t n):=by
 unfold dS;cases hb:ol t n with
 |none=>exact h
 |some z=>exact ⟨h.sz,(ht z (Nv hb).1).2.2.2,λh=>(by cases h),h.acc,h.sL,h.told⟩
theorem fY {l:ar}{a:aa}(h: ¬lF l a):l.bw=false/\a.By<kz l.S/\tw a:=by
 refine ⟨?_,?_,?_⟩
 ·cases hd:l.bw with
  |false=>rfl
  |true=>exact absurd (.inl hd) h
 ·exact Int.lt_of_not_ge λh'=>h (.inr (.inl h'))
 ·exact Decidable.byContradiction λh'=>h (.inr (.inr h'))
theorem zo {l:ar}(h:lZ l)(a:aa):lZ (b8 l a):=by
 unfold b8;by_cases hd:lF l a
 ·rw [if_pos hd];exact h
 ·rw [if_neg hd];obtain ⟨h0,h1,h2⟩:=fY hd;have hw:=tY h.acc h1 h2.2.2.1;exact uT (l:=⟨l.S,⟨(cL l.aY.L a).1⟩,l.aR,l.Told,l.bw,l.Value⟩) ⟨h.sz,h.len,h.val,hw,h.sL,h.told⟩ _ hw.2.1 _
theorem R2 {l:ar}(h:lZ l)(xD:Int)(v:List UInt8):lZ (uR l xD v):=by
 unfold uR;by_cases hd:lF l ⟨xD,0,v⟩
 ·rw [if_pos hd];exact h
 ·rw [if_neg hd];obtain ⟨h0,h1,h2⟩:=fY hd;have hw:=tY (a:=⟨xD,0,v⟩) h.told h1 (Int.le_refl 0);exact uT (l:=⟨l.S,l.aY,l.aR,⟨(cL l.Told.L ⟨xD,0,v⟩).1⟩,l.bw,l.Value⟩) ⟨h.sz,h.len,h.val,h.acc,h.sL,hw⟩ _ hw.2.1 _
theorem Ga {l:ar}(h:lZ l)(xD:Int)(p:List aa):lZ (fa l xD p):=by
 unfold fa;split
 ·cases p with
  |nil=>exact h
  |cons x r=>
   dsimp only;by_cases hd:lF l ⟨xD,x.View,x.Value⟩
   ·rw [if_pos hd];exact h
   ·rw [if_neg hd];obtain ⟨h0,h1,h2⟩:=fY hd;have hw:=tY (a:=⟨xD,x.View,x.Value⟩) h.sL h1 h2.2.2.1;exact uT (l:=⟨l.S,l.aY,⟨(cL l.aR.L ⟨xD,x.View,x.Value⟩).1⟩,l.Told,l.bw,l.Value⟩) ⟨h.sz,h.len,h.val,h.acc,hw,h.told⟩ _ hw.2.1 _
 ·exact h
section
variable {s:ae}{fr v:Int}{x:List UInt8}(hs:cC s)(h0:0<=fr)(hv:0<=v)(Gg:v<=100000)(hx:x.length<=6000)
include hs h0 hv Gg hx
end
theorem tA {L:List aa}{s:ae}{last:Int}(hs:cC s)(h:KQ s L last):L.length<2^31:=by
 have h1:=hs.f1;have h2:=hs.t0;have h3:=hs.f5;have h4:=hs.tf;have: ∀k (hk:k<L.length),(k:Int)<=L[k].By:=by
  intro k;induction k with
  |zero=>intro hk;exact (h.2.1 _ (cV hk)).1
  |succ k ih=>intro hk;have h5:=ih (by omega);have h6:L[k].By<L[k+1].By:=oh.lt (key:=vk) h.2.2 hk (Nat.lt_succ_self k);omega
 by_cases hl:L.length=0
 ·omega
 ·have h5:=this (L.length-1) (by omega);have h6:=(h.1 _ (cV (show L.length-1<L.length by omega))).1;unfold kz at h6;omega
end Dn.S
