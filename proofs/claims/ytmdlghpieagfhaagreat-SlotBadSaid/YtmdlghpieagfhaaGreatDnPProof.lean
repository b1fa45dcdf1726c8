import Derived.Test.YtmdlghpieagfhaaGreatDnPTally2
import Derived.Test.YtmdlghpieagfhaaGreatDnPSize
/-
  Commit proofs: what is right is as the document says. Conditions: none.
-/
set_option linter.unusedVariables false
set_option linter.unusedSimpArgs false
open Bool renaming false_eq_true→eJ,not_true→sh,not_false→AI
open List renaming mem_iff_getElem→AT,getElem_mem→BY,length_filter_eq_length_iff→IN
open Go Dn
namespace Dn.S
structure Az (s:af) (p:List aa):Prop where
 sz:cr s
 len:(p.length:Int)=2 *s.F+s.T+1
 uJ:qz p
 wL: ∀e∈p,e.By<uI s
 one: ∀e∈p,∀f∈p,e.View=f.View/\e.Value=f.Value
theorem rN (s:af)(p:List aa)(hl:p.length<2^32):aL (gV s p) λb=>b=true↔Az s p:=by
 unfold gV;simp only [nN,ap];by_cases hs:cr s;rotate_left
 ·simp only [hs,decide_false,AI,if_true,ap];exact .mk ⟨λh=>(by cases h),λh=>absurd h.sz hs⟩
 simp only [hs,decide_true,sh,eJ,if_false,yH hs,ap];by_cases hlen:(p.length:Int)=2 *s.F+s.T+1;rotate_left
 ·simp only [hlen,decide_false,AI,if_true,ap];exact .mk ⟨λh=>(by cases h),λh=>absurd h.len hlen⟩
 obtain ⟨r,e1,h1⟩:=K3 p (by omega);simp only [hlen,decide_true,sh,eJ,if_false,e1,ap];cases r with
 |false=>simp only [AI,if_true];exact .mk ⟨λh=>(by cases h),λh=>by have:=h1.2 h.uJ;cases this⟩
 |true=>
  have hv:=h1.1 rfl;obtain ⟨g1,g2,g3,g4⟩:=hs;have jD:0<p.length:=by omega
  have Y6:p.length-1<p.length:=by omega
  simp only [sh,eJ,if_false];rw [wrap64 (by omega) (by omega),<-hlen,show (p.length:Int)-1=((p.length-1:Nat):Int) by omega];simp only [bh Y6,uH ⟨g1,g2,g3,g4⟩,ap];by_cases hb:p[p.length-1].By<3 *s.F+2 *s.T+1;rotate_left
  ·simp only [hb,if_false,ap];exact .mk ⟨λh=>(by cases h),λh=>absurd (h.wL _ (BY Y6)) hb⟩
  simp only [hb,if_true,jT jD,count_eq p _ _ hl,ap];refine .mk ?_;rw [decide_eq_true_iff];constructor
  ·intro hc;have hc:zr p p[0].View p[0].Value=p.length:=by omega
   have my: ∀e∈p,e.View=p[0].View/\e.Value=p[0].Value:=by intro e he;have:=IN.1 hc e he;simpa [th] using this
   refine ⟨⟨g1,g2,g3,g4⟩,hlen,hv,λe he=> ?_,λe he f hf=> ?_⟩
   ·obtain ⟨k,hk,rfl⟩:=AT.1 he;have:=hv.inc.le Y6 (i:=k) (by omega);simp only [vk] at this;unfold uI;omega
   ·obtain ⟨a1,a2⟩:=my e he;obtain ⟨b1,b2⟩:=my f hf;exact ⟨a1.trans b1.symm,a2.trans b2.symm⟩
  ·intro h;have:zr p p[0].View p[0].Value=p.length:=by unfold zr;rw [IN];intro e he;obtain ⟨a1,a2⟩:=h.one e he _ (BY jD);simp [th,a1,a2]
   omega
def okP (s:af)(p:List aa)(k:Nat):Prop:= ∃hk:k<p.length,sF p[k]/\p[k].By<uI s/\p[k].View=(p[0]'(by omega)).View/\p[k].Value=(p[0]'(by omega)).Value/\(0<k->(p[k-1]'(by omega)).By<p[k].By)
theorem GA (s:af)(p:List aa)(hl:p.length<2^32):aL (po (xI s) p) λb=>b=true↔Az s p:=by
 unfold po;simp only [pC,ap];by_cases hs:cr s;rotate_left
 ·simp only [hs,decide_false,AI,if_true,ap];exact .mk ⟨λh=>(by cases h),λh=>absurd h.sz hs⟩
 simp only [hs,decide_true,sh,eJ,if_false,Gz hs,ap];by_cases hlen:(p.length:Int)=2 *s.F+s.T+1;rotate_left
 ·simp only [hlen,decide_false,AI,if_true];exact .mk ⟨λh=>(by cases h),λh=>absurd h.len hlen⟩
 simp only [hlen,decide_true,sh,eJ,if_false];have my:(∀k,k<p.length->okP s p k)↔Az s p:=by
  constructor
  ·intro h;have hv:qz p:=pB.1 λk hk=>⟨hk,(h k hk).2.1,(h k hk).2.2.2.2.2⟩
   refine ⟨hs,hlen,hv,λe he=> ?_,λe he f hf=> ?_⟩
   ·obtain ⟨k,hk,rfl⟩:=AT.1 he;exact (h k hk).2.2.1
   ·obtain ⟨k,hk,rfl⟩:=AT.1 he;obtain ⟨j,hj,rfl⟩:=AT.1 hf;obtain ⟨_,_,_,a1,a2,_⟩:=h k hk;obtain ⟨_,_,_,b1,b2,_⟩:=h j hj;exact ⟨a1.trans b1.symm,a2.trans b2.symm⟩
  ·intro h k hk;obtain ⟨_,h1,h2⟩:=pB.2 h.uJ k hk;obtain ⟨a1,a2⟩:=h.one _ (BY hk) _ (BY (show 0<p.length by omega));exact ⟨hk,h1,h.wL _ (BY hk),a1,a2,h2⟩
 refine aL.bd (xz p.length (okP s p) false (λk hk _=> ?_) ?_) ?_
 ·have h0:0<p.length:=by omega
  unfold zZ;simp only [show ((k:Int)<(p.length:Int)) by omega,if_true,bh hk,jT h0,xA,Bn hs,ap];rw [wrap64 (x:=(k:Int)+1) (by omega) (by omega),show (k:Int)+1=((k+1:Nat):Int) by omega];by_cases c1:sF p[k];rotate_left
  ·simp only [c1,decide_false,AI,if_true,ap];exact ⟨λ⟨_,h,_⟩=>absurd h c1,λ_=>trivial⟩
  by_cases c2:3 *s.F+2 *s.T+1<=p[k].By
  ·simp only [c1,c2,decide_true,sh,eJ,if_true,if_false,ap];exact ⟨λ⟨_,_,h,_⟩=>by unfold uI at h;omega,λ_=>trivial⟩
  by_cases c3:p[k].View=p[0].View;rotate_left
  ·simp only [c1,c2,c3,decide_true,decide_false,AI,sh,eJ,if_true,if_false,ap];exact ⟨λ⟨_,_,_,h,_⟩=>absurd h c3,λ_=>trivial⟩
  by_cases c4:p[k].Value=p[0].Value;rotate_left
  ·simp only [c1,c2,c3,c4,decide_true,decide_false,AI,sh,eJ,if_true,if_false,ap];exact ⟨λ⟨_,_,_,_,h,_⟩=>absurd h c4,λ_=>trivial⟩
  simp only [c1,c2,decide_true,sh,eJ,if_false];rw [if_neg (by simpa using c3),if_neg (by simpa using c4)];by_cases g5:k=0
  ·subst g5;simp only [show¬((0:Int)<((0:Nat):Int)) by omega,if_false,ap,eJ];exact ⟨λ_=>trivial,λh=>absurd ⟨hk,c1,by unfold uI;omega,c3,c4,λh=>by omega⟩ h⟩
  ·have Xx:k-1<p.length:=by omega
   rw [wrap64 (x:=(k:Int)-1) (by omega) (by omega),show ((k:Int)-1)=((k-1:Nat):Int) by omega];simp only [show ((0:Int)<(k:Int)) by omega,if_true,bh Xx,ap];by_cases g6:p[k].By<=p[k-1].By
   ·simp only [g6,decide_true,if_true];exact ⟨λ⟨_,_,_,_,_,h⟩=>by have:=h (by omega);omega,λ_=>trivial⟩
   ·simp only [g6,decide_false,eJ,if_false];exact ⟨λ_=>trivial,λh=>absurd ⟨hk,c1,by unfold uI;omega,c3,c4,λ_=>by omega⟩ h⟩
 ·unfold zZ;simp only [show¬((p.length:Int)<(p.length:Int)) by omega,if_false]
 ·rintro r (⟨rfl,h⟩|⟨rfl,k,hk,h⟩)
  ·exact .mk ⟨λ_=>my.1 h,λ_=>rfl⟩
  ·exact .mk ⟨λh=>(by cases h),λhr=>absurd (my.2 hr k hk) h⟩
end Dn.S
