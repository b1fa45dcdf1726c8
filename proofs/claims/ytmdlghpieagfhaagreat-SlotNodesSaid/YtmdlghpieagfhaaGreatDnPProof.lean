import Derived.Test.YtmdlghpieagfhaaGreatDnPTally2
import Derived.Test.YtmdlghpieagfhaaGreatDnPSize
/-
  Commit proofs: what is right is as the document says. Conditions: none.
-/
set_option linter.unusedVariables false
set_option linter.unusedSimpArgs false
open Bool renaming false_eq_true→fj,not_true→sh,not_false→AI
open List renaming mem_iff_getElem→AT,getElem_mem→BY,length_filter_eq_length_iff→IN
open Go Dn
namespace Dn.S
structure zW (s:ak) (p:List aa):Prop where
 sz:cR s
 len:(p.length:Int)=2 *s.F+s.T+1
 tG:qZ p
 jg: ∀e∈p,e.By<tF s
 one: ∀e∈p,∀f∈p,e.View=f.View/\e.Value=f.Value
theorem sq (s:ak)(p:List aa)(hl:p.length<2^32):bD (hU s p) λb=>b=true↔zW s p:=by
 unfold hU;simp only [nI,ar];by_cases hs:cR s;rotate_left
 ·simp only [hs,decide_false,AI,if_true,ar];exact .mk ⟨λh=>(by cases h),λh=>absurd h.sz hs⟩
 simp only [hs,decide_true,sh,fj,if_false,zU hs,ar];by_cases hlen:(p.length:Int)=2 *s.F+s.T+1;rotate_left
 ·simp only [hlen,decide_false,AI,if_true,ar];exact .mk ⟨λh=>(by cases h),λh=>absurd h.len hlen⟩
 obtain ⟨r,e1,h1⟩:=Oh p (by omega);simp only [hlen,decide_true,sh,fj,if_false,e1,ar];cases r with
 |false=>simp only [AI,if_true];exact .mk ⟨λh=>(by cases h),λh=>by have:=h1.2 h.tG;cases this⟩
 |true=>
  have hv:=h1.1 rfl;obtain ⟨g1,g2,g3,g4⟩:=hs;have jv:0<p.length:=by omega
  have ae4:p.length-1<p.length:=by omega
  simp only [sh,fj,if_false];rw [wrap64 (by omega) (by omega),<-hlen,show (p.length:Int)-1=((p.length-1:Nat):Int) by omega];simp only [bP ae4,vE ⟨g1,g2,g3,g4⟩,ar];by_cases hb:p[p.length-1].By<3 *s.F+2 *s.T+1;rotate_left
  ·simp only [hb,if_false,ar];exact .mk ⟨λh=>(by cases h),λh=>absurd (h.jg _ (BY ae4)) hb⟩
  simp only [hb,if_true,iK jv,count_eq p _ _ hl,ar];refine .mk ?_;rw [decide_eq_true_iff];constructor
  ·intro hc;have hc:AB p p[0].View p[0].Value=p.length:=by omega
   have mz: ∀e∈p,e.View=p[0].View/\e.Value=p[0].Value:=by intro e he;have:=IN.1 hc e he;simpa [ub] using this
   refine ⟨⟨g1,g2,g3,g4⟩,hlen,hv,λe he=> ?_,λe he f hf=> ?_⟩
   ·obtain ⟨k,hk,rfl⟩:=AT.1 he;have:=hv.inc.le ae4 (i:=k) (by omega);simp only [vk] at this;unfold tF;omega
   ·obtain ⟨a1,a2⟩:=mz e he;obtain ⟨b1,b2⟩:=mz f hf;exact ⟨a1.trans b1.symm,a2.trans b2.symm⟩
  ·intro h;have:AB p p[0].View p[0].Value=p.length:=by unfold AB;rw [IN];intro e he;obtain ⟨a1,a2⟩:=h.one e he _ (BY jv);simp [ub,a1,a2]
   omega
def okP (s:ak)(p:List aa)(k:Nat):Prop:= ∃hk:k<p.length,rc p[k]/\p[k].By<tF s/\p[k].View=(p[0]'(by omega)).View/\p[k].Value=(p[0]'(by omega)).Value/\(0<k->(p[k-1]'(by omega)).By<p[k].By)
theorem BL (s:ak)(p:List aa)(hl:p.length<2^32):bD (kz (vF s) p) λb=>b=true↔zW s p:=by
 unfold kz;simp only [pL,ar];by_cases hs:cR s;rotate_left
 ·simp only [hs,decide_false,AI,if_true,ar];exact .mk ⟨λh=>(by cases h),λh=>absurd h.sz hs⟩
 simp only [hs,decide_true,sh,fj,if_false,BK hs,ar];by_cases hlen:(p.length:Int)=2 *s.F+s.T+1;rotate_left
 ·simp only [hlen,decide_false,AI,if_true];exact .mk ⟨λh=>(by cases h),λh=>absurd h.len hlen⟩
 simp only [hlen,decide_true,sh,fj,if_false];have mz:(∀k,k<p.length->okP s p k)↔zW s p:=by
  constructor
  ·intro h;have hv:qZ p:=pK.1 λk hk=>⟨hk,(h k hk).2.1,(h k hk).2.2.2.2.2⟩
   refine ⟨hs,hlen,hv,λe he=> ?_,λe he f hf=> ?_⟩
   ·obtain ⟨k,hk,rfl⟩:=AT.1 he;exact (h k hk).2.2.1
   ·obtain ⟨k,hk,rfl⟩:=AT.1 he;obtain ⟨j,hj,rfl⟩:=AT.1 hf;obtain ⟨_,_,_,a1,a2,_⟩:=h k hk;obtain ⟨_,_,_,b1,b2,_⟩:=h j hj;exact ⟨a1.trans b1.symm,a2.trans b2.symm⟩
  ·intro h k hk;obtain ⟨_,h1,h2⟩:=pK.2 h.tG k hk;obtain ⟨a1,a2⟩:=h.one _ (BY hk) _ (BY (show 0<p.length by omega));exact ⟨hk,h1,h.jg _ (BY hk),a1,a2,h2⟩
 refine bD.bd (yI p.length (okP s p) false (λk hk _=> ?_) ?_) ?_
 ·have h0:0<p.length:=by omega
  unfold wI;simp only [show ((k:Int)<(p.length:Int)) by omega,if_true,bP hk,iK h0,uC,uc hs,ar];rw [wrap64 (x:=(k:Int)+1) (by omega) (by omega),show (k:Int)+1=((k+1:Nat):Int) by omega];by_cases c1:rc p[k];rotate_left
  ·simp only [c1,decide_false,AI,if_true,ar];exact ⟨λ⟨_,h,_⟩=>absurd h c1,λ_=>trivial⟩
  by_cases c2:3 *s.F+2 *s.T+1<=p[k].By
  ·simp only [c1,c2,decide_true,sh,fj,if_true,if_false,ar];exact ⟨λ⟨_,_,h,_⟩=>by unfold tF at h;omega,λ_=>trivial⟩
  by_cases c3:p[k].View=p[0].View;rotate_left
  ·simp only [c1,c2,c3,decide_true,decide_false,AI,sh,fj,if_true,if_false,ar];exact ⟨λ⟨_,_,_,h,_⟩=>absurd h c3,λ_=>trivial⟩
  by_cases c4:p[k].Value=p[0].Value;rotate_left
  ·simp only [c1,c2,c3,c4,decide_true,decide_false,AI,sh,fj,if_true,if_false,ar];exact ⟨λ⟨_,_,_,_,h,_⟩=>absurd h c4,λ_=>trivial⟩
  simp only [c1,c2,decide_true,sh,fj,if_false];rw [if_neg (by simpa using c3),if_neg (by simpa using c4)];by_cases g5:k=0
  ·subst g5;simp only [show¬((0:Int)<((0:Nat):Int)) by omega,if_false,ar,fj];exact ⟨λ_=>trivial,λh=>absurd ⟨hk,c1,by unfold tF;omega,c3,c4,λh=>by omega⟩ h⟩
  ·have hk1:k-1<p.length:=by omega
   rw [wrap64 (x:=(k:Int)-1) (by omega) (by omega),show ((k:Int)-1)=((k-1:Nat):Int) by omega];simp only [show ((0:Int)<(k:Int)) by omega,if_true,bP hk1,ar];by_cases g6:p[k].By<=p[k-1].By
   ·simp only [g6,decide_true,if_true];exact ⟨λ⟨_,_,_,_,_,h⟩=>by have:=h (by omega);omega,λ_=>trivial⟩
   ·simp only [g6,decide_false,fj,if_false];exact ⟨λ_=>trivial,λh=>absurd ⟨hk,c1,by unfold tF;omega,c3,c4,λ_=>by omega⟩ h⟩
 ·unfold wI;simp only [show¬((p.length:Int)<(p.length:Int)) by omega,if_false]
 ·rintro r (⟨rfl,h⟩|⟨rfl,k,hk,h⟩)
  ·exact .mk ⟨λ_=>mz.1 h,λ_=>rfl⟩
  ·exact .mk ⟨λh=>(by cases h),λhr=>absurd (mz.2 hr k hk) h⟩
end Dn.S
