import Derived.Test.YtmdlghpieagfhaaGreatDnPProof
/- Certificates: what may be, and what binds. Conditions: none. -/
set_option linter.unusedVariables false
set_option linter.unusedSimpArgs false
open Bool renaming false_eq_true→cV,not_false→sh,not_true→AI
open List renaming getElem?_eq_getElem→AT
open Go Dn
namespace Dn.S
theorem fX {s:ae}(h:cC s):tJ s=some (2 *s.F+2 *s.T+1):=h.cases (λs=>tJ s=some (2 *s.F+2 *s.T+1)) (by decide+kernel)
theorem Pe {s:ae}(h:cC s):uu s=some (s.F+s.T+1):=h.cases (λs=>uu s=some (s.F+s.T+1)) (by decide+kernel)
def mB (p:List aa):Int×List UInt8×Bool:=match p with|[]=>(-1,[],false)|e::_=>(e.View,e.Value,true)
theorem KE {p:List aa}(h:0<p.length):(mB p).1=p[0].View:=by
 cases p with
 |nil=>simp at h
 |cons x y=>rfl
theorem Dh (p:List aa):n4 p=some (mB p):=by
 cases p with
 |nil=>rfl
 |cons e r=>unfold n4 mB;rw [if_neg (by simp;omega)];rfl
theorem BT (r:ab):lN r=some (mB r.Proof).1:=by unfold lN;rw [Dh];cases r.Proof<;>rfl
theorem KF (s:ae)(r:ab)(hl:r.Proof.length<2^32):aK (gG s r) λb=>b=true->0<=r.By:=by
 unfold gG;obtain ⟨b,e,_⟩:=oo s r.Proof hl;rw [iK,BT,e];simp only [au];by_cases hs:cC s;rotate_left
 ·simp only [hs,decide_false,sh,if_true,au];exact .mk λh=>(by cases h)
 simp only [hs,decide_true,AI,cV,if_false,om hs,au];by_cases c1:r.By<0
 ·simp only [c1,if_true,au];exact .mk λh=>(by cases h)
 suffices h:aK _ λ_=>True from h.imp λ_ _ _=>Int.not_lt.1 c1
 simp only [anJ,au];repeat' first|exact .mk trivial|refine aK.ite (λ_=> ?_) (λ_=> ?_)
def okR (s:ae)(view:Int)(L:List ab)(k:Nat):Prop:= ∃hk:k<L.length,gG s L[k]=some true/\L[k].fS=view/\(0<k->(L[k-1]'(by omega)).By<L[k].By)
def EK (s:ae)(view:Int)(L:List ab):Prop:=cC s/\(L.length:Int)=2 *s.F+2 *s.T+1/\ ∀k,k<L.length->okR s view L k
theorem A7 (s:ae)(view:Int)(L:List ab)(hp: ∀r∈L,r.Proof.length<2^32)(hl:L.length<2^32):aK (pN s view L) λb=>b=true↔EK s view L:=by
 unfold pN;rw [iK];simp only [au];by_cases hs:cC s;rotate_left
 ·simp only [hs,decide_false,sh,if_true,au];exact .mk ⟨λh=>(by cases h),λh=>absurd h.1 hs⟩
 simp only [hs,decide_true,AI,cV,if_false,fX hs,au];by_cases hn:(L.length:Int)=2 *s.F+2 *s.T+1;rotate_left
 ·simp only [hn,decide_false,sh,if_true];exact .mk ⟨λh=>(by cases h),λh=>absurd h.2.1 hn⟩
 simp only [hn,decide_true,AI,cV,if_false];refine aK.bd (P:=λr=>(r= .inl ()/\ ∀k,k<L.length->okR s view L k)\/(r= .inr false/\ ∃k,k<L.length/\ ¬okR s view L k)) (aK.count (λk=>(match L[k-1]? with|some x=>if k=0 then-1 else x.By|none=> -1,(k:Int))) L.length (λk=> ∀j,j<k->okR s view L j) (by cases L<;>rfl) (λj hj=>by omega) (λk hk Hn=> ?_) (λHn=> ?_)) ?_
 ·unfold pM;simp only [show ((k:Int)<(L.length:Int)) by omega,if_true,bB hk];obtain ⟨b,e,hb⟩:=KF s L[k] (hp _ (List.getElem_mem hk));rw [e];simp only [au];cases b with
  |false=>simp only [sh,if_true,au];exact .mk (.inr ⟨rfl,k,hk,λ⟨_,h,_⟩=>by rw [e] at h;cases h⟩)
  |true=>
   simp only [AI,cV,if_false];by_cases c1:L[k].fS=view;rotate_left
   ·simp only [c1,decide_false,sh,if_true,au];exact .mk (.inr ⟨rfl,k,hk,λ⟨_,_,h,_⟩=>c1 h⟩)
   simp only [c1,decide_true,AI,cV,if_false,au];have h0:=hb rfl;have iF: ∀x:Int,(match L[k-1]? with|some x=>if k=0 then-1 else x.By|none=> -1)=x->(L[k].By<=x↔ ¬(0<k->(L[k-1]'(by omega)).By<L[k].By)):=by
    intro x hx;rw [AT (by omega)] at hx;simp only at hx;by_cases hk0:k=0
    ·rw [if_pos hk0] at hx;subst hx;exact ⟨λh=>by omega,λh=>absurd (λh'=>by omega) h⟩
    ·rw [if_neg hk0] at hx;rw [<-hx];exact ⟨λh h'=>by have:=h' (by omega);omega,λh=>by refine Int.not_lt.1 λh2=>h λ_=>h2⟩
   generalize hx:(match L[k-1]? with|some x=>if k=0 then-1 else x.By|none=> -1)=x at iF;have iF:=iF x rfl;by_cases c2:L[k].By<=x
   ·simp only [c2,decide_true,if_true];exact .mk (.inr ⟨rfl,k,hk,λ⟨_,_,_,h⟩=>iF.1 c2 h⟩)
   ·simp only [c2,decide_false,cV,if_false];rw [wrap64 (by omega) (by omega)];refine .mk ⟨?_,λj hj=> ?_⟩
    ·rw [show k+1-1=k by omega,AT hk];simp
    ·by_cases hjk:j=k
     ·subst hjk;exact ⟨hk,e,c1,λh=>by refine Int.not_le.1 λh2=>c2 (iF.2 λh3=> ?_);have:=h3 h;omega⟩
     ·exact Hn j (by omega)
 ·unfold pM;simp only [show¬((L.length:Int)<(L.length:Int)) by omega,if_false];exact .mk (.inl ⟨rfl,Hn⟩)
 ·rintro r (⟨rfl,h⟩|⟨rfl,k,hk,h⟩)
  ·exact .mk ⟨λ_=>⟨hs,hn,h⟩,λ_=>rfl⟩
  ·exact .mk ⟨λh=>(by cases h),λhr=>absurd (hr.2.2 k hk) h⟩
end Dn.S
