import Derived.Test.YtmdlghpieagfhaaGreatDnPProof
/-
  Certificates: what may be, and what binds. Conditions: none.
-/
set_option linter.unusedVariables false
set_option linter.unusedSimpArgs false
open Bool renaming false_eq_true→fj,not_false→sh,not_true→AI
open List renaming getElem?_eq_getElem→AT,getElem_mem→BY
open Go Dn
namespace Dn.S
theorem pM {s:ak}(h:cR s):uk s=some (2 *s.F+2 *s.T+1):=h.cases (λs=>uk s=some (2 *s.F+2 *s.T+1)) (by decide+kernel)
theorem RT {s:ak}(h:cR s):uW s=some (s.F+s.T+1):=h.cases (λs=>uW s=some (s.F+s.T+1)) (by decide+kernel)
theorem Et {s:ak}(h:cR s):yf (vF s)=some (2 *s.F+2 *s.T+1):=h.cases (λs=>yf (vF s)=some (2 *s.F+2 *s.T+1)) (by decide+kernel)
theorem UQ {s:ak}(h:cR s):ye (vF s)=some (s.F+s.T+1):=h.cases (λs=>ye (vF s)=some (s.F+s.T+1)) (by decide+kernel)
def PV (p:List aa):Int×List UInt8×Bool:=match p with|[]=>(-1,[],false)|e::_=>(e.View,e.Value,true)
theorem ae6 {p:List aa}(h:0<p.length):(PV p).1=p[0].View:=by
 cases p with
 |nil=>simp at h
 |cons x y=>rfl
theorem zX (p:List aa):oq p=some (PV p):=by
 cases p with
 |nil=>rfl
 |cons e r=>unfold oq PV;rw [if_neg (by simp;omega)];rfl
theorem UR (p:List aa):K0 p=some (PV p):=zX p
theorem PW (r:ae):lJ r=some (PV r.Proof).1:=by unfold lJ;rw [zX];cases r.Proof<;>rfl
theorem US (s:ak)(p:List aa)(hl:p.length<2^32):kz (vF s) p=hU s p:=by obtain ⟨r1,e1,h1⟩:=sq s p hl;obtain ⟨r2,e2,h2⟩:=BL s p hl;rw [e1,e2];congr 1;cases r1<;>cases r2<;>simp_all
theorem MA (s:ak)(r:ae)(hl:r.Proof.length<2^32):bD (o8 s r) λb=>Cb (vF s) r=some b/\(b=true->0<=r.By):=by
 unfold o8 Cb;rw [nI,pL,US s _ hl,PW];simp only [ar];by_cases hs:cR s;rotate_left
 ·simp only [hs,decide_false,sh,if_true,ar];exact .mk ⟨rfl,λh=>(by cases h)⟩
 simp only [hs,decide_true,AI,fj,if_false,vE hs,uc hs,ar];by_cases c1:r.By<0
 ·simp only [c1,if_true,ar];exact .mk ⟨rfl,λh=>(by cases h)⟩
 by_cases c2:3 *s.F+2 *s.T+1<=r.By
 ·simp only [c1,c2,if_true,if_false,ar];exact .mk ⟨rfl,λh=>(by cases h)⟩
 by_cases c3:r.fP<1
 ·simp only [c1,c2,c3,if_true,if_false,ar];exact .mk ⟨rfl,λh=>(by cases h)⟩
 simp only [c1,c2,c3,if_false,ar];by_cases c4:(100000:Int)<r.fP
 ·simp only [c4,decide_true,if_true];exact .mk ⟨rfl,λh=>(by cases h)⟩
 simp only [c4,decide_false,fj,if_false];have last:bD (bd (if (r.Proof.length:Int)=0 then some true else bd (hU s r.Proof) λbH=>if bH then some (decide ((PV r.Proof).1<r.fP)) else some false) λw3=>some w3) λb=>(bd (if (r.Proof.length:Int)=0 then some true else bd (hU s r.Proof) λbH=>if bH then ix r.Proof 0 λy=>some (decide (y.View<r.fP)) else some false) λw2=>some w2)=some b/\(b=true->0<=r.By):=by
  simp only [PT];by_cases h0:(r.Proof.length:Int)=0
  ·simp only [h0,if_true];exact .mk ⟨rfl,λ_=>by omega⟩
  ·simp only [h0,if_false];obtain ⟨b,e,_⟩:=sq s r.Proof hl;rw [e];simp only [ar];cases b with
   |false=>exact .mk ⟨rfl,λ_=>by omega⟩
   |true=>simp only [if_true];rw [iK (by omega)];rw [<-ae6];exact .mk ⟨rfl,λ_=>by omega⟩
 cases hh:r.Has with
 |true=>
  simp only [if_true,AI,fj,if_false,ar];by_cases d1:r.View<0
  ·simp only [d1,if_true,ar];exact .mk ⟨rfl,λh=>(by cases h)⟩
  by_cases d2:r.fP<=r.View
  ·simp only [d1,d2,if_true,if_false,ar];exact .mk ⟨rfl,λh=>(by cases h)⟩
  by_cases d3:(6000:Int)<(r.Value.length:Int)
  ·simp only [d1,d2,d3,if_true,if_false,ar,decide_true];exact .mk ⟨rfl,λh=>(by cases h)⟩
  simp only [d1,d2,d3,if_false,ar,decide_false,fj];exact last
 |false=>
  simp only [fj,if_false,sh,if_true,ar];by_cases d1:r.View=0;rotate_left
  ·simp only [d1,decide_false,sh,if_true,ar];exact .mk ⟨rfl,λh=>(by cases h)⟩
  by_cases d2:r.Value=[];rotate_left
  ·simp only [d1,d2,decide_true,decide_false,AI,sh,fj,if_true,if_false,ar];exact .mk ⟨rfl,λh=>(by cases h)⟩
  simp only [d1,d2,decide_true,AI,fj,if_false,ar];exact last
def okR (s:ak)(view:Int)(L:List ae)(k:Nat):Prop:= ∃hk:k<L.length,o8 s L[k]=some true/\L[k].fP=view/\(0<k->(L[k-1]'(by omega)).By<L[k].By)
def YQ (s:ak)(view:Int)(L:List ae):Prop:=cR s/\(L.length:Int)=2 *s.F+2 *s.T+1/\ ∀k,k<L.length->okR s view L k
theorem UT (s:ak)(view:Int)(L:List ae)(hp: ∀r∈L,r.Proof.length<2^32)(hl:L.length<2^32):bD (qt s view L) λb=>b=true↔YQ s view L:=by
 unfold qt;rw [nI];simp only [ar];by_cases hs:cR s;rotate_left
 ·simp only [hs,decide_false,sh,if_true,ar];exact .mk ⟨λh=>(by cases h),λh=>absurd h.1 hs⟩
 simp only [hs,decide_true,AI,fj,if_false,pM hs,ar];by_cases hn:(L.length:Int)=2 *s.F+2 *s.T+1;rotate_left
 ·simp only [hn,decide_false,sh,if_true];exact .mk ⟨λh=>(by cases h),λh=>absurd h.2.1 hn⟩
 simp only [hn,decide_true,AI,fj,if_false];refine bD.bd (P:=λr=>(r= .inl ()/\ ∀k,k<L.length->okR s view L k)\/(r= .inr false/\ ∃k,k<L.length/\ ¬okR s view L k)) (bD.count (λk=>(match L[k-1]? with|some x=>if k=0 then-1 else x.By|none=> -1,(k:Int))) L.length (λk=> ∀j,j<k->okR s view L j) (by cases L<;>rfl) (λj hj=>by omega) (λk hk IU=> ?_) (λIU=> ?_)) ?_
 ·unfold qq;simp only [show ((k:Int)<(L.length:Int)) by omega,if_true,bP hk];obtain ⟨b,e,_,hb⟩:=MA s L[k] (hp _ (BY hk));rw [e];simp only [ar];cases b with
  |false=>simp only [sh,if_true,ar];exact .mk (.inr ⟨rfl,k,hk,λ⟨_,h,_⟩=>by rw [e] at h;cases h⟩)
  |true=>
   simp only [AI,fj,if_false];by_cases c1:L[k].fP=view;rotate_left
   ·simp only [c1,decide_false,sh,if_true,ar];exact .mk (.inr ⟨rfl,k,hk,λ⟨_,_,h,_⟩=>c1 h⟩)
   simp only [c1,decide_true,AI,fj,if_false,ar];have h0:=hb rfl;have jf: ∀x:Int,(match L[k-1]? with|some x=>if k=0 then-1 else x.By|none=> -1)=x->(L[k].By<=x↔ ¬(0<k->(L[k-1]'(by omega)).By<L[k].By)):=by
    intro x hx;rw [AT (by omega)] at hx;simp only at hx;by_cases hk0:k=0
    ·rw [if_pos hk0] at hx;subst hx;exact ⟨λh=>by omega,λh=>absurd (λh'=>by omega) h⟩
    ·rw [if_neg hk0] at hx;rw [<-hx];exact ⟨λh h'=>by have:=h' (by omega);omega,λh=>by refine Int.not_lt.1 λh2=>h λ_=>h2⟩
   generalize hx:(match L[k-1]? with|some x=>if k=0 then-1 else x.By|none=> -1)=x at jf;have jf:=jf x rfl;by_cases c2:L[k].By<=x
   ·simp only [c2,decide_true,if_true];exact .mk (.inr ⟨rfl,k,hk,λ⟨_,_,_,h⟩=>jf.1 c2 h⟩)
   ·simp only [c2,decide_false,fj,if_false];rw [wrap64 (by omega) (by omega)];refine .mk ⟨?_,λj hj=> ?_⟩
    ·rw [show k+1-1=k by omega,AT hk];simp
    ·by_cases hjk:j=k
     ·subst hjk;exact ⟨hk,e,c1,λh=>by refine Int.not_le.1 λh2=>c2 (jf.2 λh3=> ?_);have:=h3 h;omega⟩
     ·exact IU j (by omega)
 ·unfold qq;simp only [show¬((L.length:Int)<(L.length:Int)) by omega,if_false];exact .mk (.inl ⟨rfl,IU⟩)
 ·rintro r (⟨rfl,h⟩|⟨rfl,k,hk,h⟩)
  ·exact .mk ⟨λ_=>⟨hs,hn,h⟩,λ_=>rfl⟩
  ·exact .mk ⟨λh=>(by cases h),λhr=>absurd (hr.2.2 k hk) h⟩
theorem UU (s:ak)(view:Int)(L:List ae)(hp: ∀r∈L,r.Proof.length<2^32)(hl:L.length<2^32):bD (yg (vF s) view L) λb=>b=true↔YQ s view L:=by
 unfold yg;rw [pL];simp only [ar];by_cases hs:cR s;rotate_left
 ·simp only [hs,decide_false,sh,if_true,ar];exact .mk ⟨λh=>(by cases h),λh=>absurd h.1 hs⟩
 simp only [hs,decide_true,AI,fj,if_false,Et hs,ar];by_cases hn:(L.length:Int)=2 *s.F+2 *s.T+1;rotate_left
 ·simp only [hn,decide_false,sh,if_true];exact .mk ⟨λh=>(by cases h),λh=>absurd h.2.1 hn⟩
 simp only [hn,decide_true,AI,fj,if_false];refine bD.bd (yI L.length (okR s view L) false (λk hk _=> ?_) ?_) ?_
 ·unfold wJ;simp only [show ((k:Int)<(L.length:Int)) by omega,if_true,bP hk];obtain ⟨b,e',e,hb⟩:=MA s L[k] (hp _ (BY hk));rw [e];simp only [ar];rw [wrap64 (x:=(k:Int)+1) (by omega) (by omega),show (k:Int)+1=((k+1:Nat):Int) by omega];cases b with
  |false=>simp only [sh,if_true,ar];exact ⟨λ⟨_,h,_⟩=>(by rw [e'] at h;cases h),λ_=>trivial⟩
  |true=>
   simp only [AI,fj,if_false];by_cases c1:L[k].fP=view;rotate_left
   ·simp only [c1,decide_false,sh,if_true,ar];exact ⟨λ⟨_,_,h,_⟩=>absurd h c1,λ_=>trivial⟩
   simp only [c1,decide_true,AI,fj,if_false,ar];by_cases hk0:k=0
   ·subst hk0;simp only [Int.natCast_zero,Int.lt_irrefl,if_false,ar,fj];exact ⟨λ_=>trivial,λh=>absurd ⟨hk,e',c1,λh=>by omega⟩ h⟩
   ·simp only [show ((0:Int)<(k:Int)) by omega,if_true];rw [wrap64 (by omega) (by omega),show (k:Int)-1=((k-1:Nat):Int) by omega,bP (by omega)];simp only [ar];by_cases c2:L[k].By<=L[k-1].By
    ·simp only [c2,decide_true,if_true];exact ⟨λ⟨_,_,_,h⟩=>by have:=h (by omega);omega,λ_=>trivial⟩
    ·simp only [c2,decide_false,fj,if_false];exact ⟨λ_=>trivial,λh=>absurd ⟨hk,e',c1,λ_=>by omega⟩ h⟩
 ·unfold wJ;simp only [show¬((L.length:Int)<(L.length:Int)) by omega,if_false]
 ·rintro r (⟨rfl,h⟩|⟨rfl,k,hk,h⟩)
  ·exact .mk ⟨λ_=>⟨hs,hn,h⟩,λ_=>rfl⟩
  ·exact .mk ⟨λh=>(by cases h),λhr=>absurd (hr.2.2 k hk) h⟩
end Dn.S
