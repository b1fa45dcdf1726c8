import Derived.Test.YtmdlghpieagfhaaGreatDnPProof
/-
  Certificates: what may be, and what binds. Conditions: none.
-/
set_option linter.unusedVariables false
set_option linter.unusedSimpArgs false
open Bool renaming false_eq_true→eJ,not_false→sh,not_true→AI
open List renaming getElem?_eq_getElem→AT,getElem_mem→BY
open Go Dn
namespace Dn.S
theorem pD {s:af}(h:cr s):tx s=some (2 *s.F+2 *s.T+1):=h.cases (λs=>tx s=some (2 *s.F+2 *s.T+1)) (by decide+kernel)
theorem NV {s:af}(h:cr s):uf s=some (s.F+s.T+1):=h.cases (λs=>uf s=some (s.F+s.T+1)) (by decide+kernel)
theorem Sk {s:af}(h:cr s):IG (xI s)=some (2 *s.F+2 *s.T+1):=h.cases (λs=>IG (xI s)=some (2 *s.F+2 *s.T+1)) (by decide+kernel)
theorem Qd {s:af}(h:cr s):Fe (xI s)=some (s.F+s.T+1):=h.cases (λs=>Fe (xI s)=some (s.F+s.T+1)) (by decide+kernel)
def Mi (p:List aa):Int×List UInt8×Bool:=match p with|[]=>(-1,[],false)|e::_=>(e.View,e.Value,true)
theorem Y8 {p:List aa}(h:0<p.length):(Mi p).1=p[0].View:=by
 cases p with
 |nil=>simp at h
 |cons x y=>rfl
theorem yI (p:List aa):oh p=some (Mi p):=by
 cases p with
 |nil=>rfl
 |cons e r=>unfold oh Mi;rw [if_neg (by simp;omega)];rfl
theorem Qe (p:List aa):R0 p=some (Mi p):=yI p
theorem Mj (r:ab):lO r=some (Mi r.Proof).1:=by unfold lO;rw [yI];cases r.Proof<;>rfl
theorem Qf (s:af)(p:List aa)(hl:p.length<2^32):po (xI s) p=gV s p:=by obtain ⟨r1,e1,h1⟩:=rN s p hl;obtain ⟨r2,e2,h2⟩:=GA s p hl;rw [e1,e2];congr 1;cases r1<;>cases r2<;>simp_all
theorem JR (s:af)(r:ab)(hl:r.Proof.length<2^32):aL (oZ s r) λb=>Hk (xI s) r=some b/\(b=true->0<=r.By):=by
 unfold oZ Hk;rw [nN,pC,Qf s _ hl,Mj];simp only [ap];by_cases hs:cr s;rotate_left
 ·simp only [hs,decide_false,sh,if_true,ap];exact .mk ⟨rfl,λh=>(by cases h)⟩
 simp only [hs,decide_true,AI,eJ,if_false,uH hs,Bn hs,ap];by_cases c1:r.By<0
 ·simp only [c1,if_true,ap];exact .mk ⟨rfl,λh=>(by cases h)⟩
 by_cases c2:3 *s.F+2 *s.T+1<=r.By
 ·simp only [c1,c2,if_true,if_false,ap];exact .mk ⟨rfl,λh=>(by cases h)⟩
 by_cases c3:r.jo<1
 ·simp only [c1,c2,c3,if_true,if_false,ap];exact .mk ⟨rfl,λh=>(by cases h)⟩
 simp only [c1,c2,c3,if_false,ap];by_cases c4:(100000:Int)<r.jo
 ·simp only [c4,decide_true,if_true];exact .mk ⟨rfl,λh=>(by cases h)⟩
 simp only [c4,decide_false,eJ,if_false];have last:aL (bd (if (r.Proof.length:Int)=0 then some true else bd (gV s r.Proof) λbQ=>if bQ then some (decide ((Mi r.Proof).1<r.jo)) else some false) λw3=>some w3) λb=>(bd (if (r.Proof.length:Int)=0 then some true else bd (gV s r.Proof) λbQ=>if bQ then ix r.Proof 0 λy=>some (decide (y.View<r.jo)) else some false) λw2=>some w2)=some b/\(b=true->0<=r.By):=by
  simp only [JI];by_cases h0:(r.Proof.length:Int)=0
  ·simp only [h0,if_true];exact .mk ⟨rfl,λ_=>by omega⟩
  ·simp only [h0,if_false];obtain ⟨b,e,_⟩:=rN s r.Proof hl;rw [e];simp only [ap];cases b with
   |false=>exact .mk ⟨rfl,λ_=>by omega⟩
   |true=>simp only [if_true];rw [jT (by omega)];rw [<-Y8];exact .mk ⟨rfl,λ_=>by omega⟩
 cases hh:r.Has with
 |true=>
  simp only [if_true,AI,eJ,if_false,ap];by_cases d1:r.View<0
  ·simp only [d1,if_true,ap];exact .mk ⟨rfl,λh=>(by cases h)⟩
  by_cases d2:r.jo<=r.View
  ·simp only [d1,d2,if_true,if_false,ap];exact .mk ⟨rfl,λh=>(by cases h)⟩
  by_cases d3:(6000:Int)<(r.Value.length:Int)
  ·simp only [d1,d2,d3,if_true,if_false,ap,decide_true];exact .mk ⟨rfl,λh=>(by cases h)⟩
  simp only [d1,d2,d3,if_false,ap,decide_false,eJ];exact last
 |false=>
  simp only [eJ,if_false,sh,if_true,ap];by_cases d1:r.View=0;rotate_left
  ·simp only [d1,decide_false,sh,if_true,ap];exact .mk ⟨rfl,λh=>(by cases h)⟩
  by_cases d2:r.Value=[];rotate_left
  ·simp only [d1,d2,decide_true,decide_false,AI,sh,eJ,if_true,if_false,ap];exact .mk ⟨rfl,λh=>(by cases h)⟩
  simp only [d1,d2,decide_true,AI,eJ,if_false,ap];exact last
def okR (s:af)(view:Int)(L:List ab)(k:Nat):Prop:= ∃hk:k<L.length,oZ s L[k]=some true/\L[k].jo=view/\(0<k->(L[k-1]'(by omega)).By<L[k].By)
def TR (s:af)(view:Int)(L:List ab):Prop:=cr s/\(L.length:Int)=2 *s.F+2 *s.T+1/\ ∀k,k<L.length->okR s view L k
theorem Qg (s:af)(view:Int)(L:List ab)(hp: ∀r∈L,r.Proof.length<2^32)(hl:L.length<2^32):aL (pZ s view L) λb=>b=true↔TR s view L:=by
 unfold pZ;rw [nN];simp only [ap];by_cases hs:cr s;rotate_left
 ·simp only [hs,decide_false,sh,if_true,ap];exact .mk ⟨λh=>(by cases h),λh=>absurd h.1 hs⟩
 simp only [hs,decide_true,AI,eJ,if_false,pD hs,ap];by_cases hn:(L.length:Int)=2 *s.F+2 *s.T+1;rotate_left
 ·simp only [hn,decide_false,sh,if_true];exact .mk ⟨λh=>(by cases h),λh=>absurd h.2.1 hn⟩
 simp only [hn,decide_true,AI,eJ,if_false];refine aL.bd (P:=λr=>(r= .inl ()/\ ∀k,k<L.length->okR s view L k)\/(r= .inr false/\ ∃k,k<L.length/\ ¬okR s view L k)) (aL.count (λk=>(match L[k-1]? with|some x=>if k=0 then-1 else x.By|none=> -1,(k:Int))) L.length (λk=> ∀j,j<k->okR s view L j) (by cases L<;>rfl) (λj hj=>by omega) (λk hk FV=> ?_) (λFV=> ?_)) ?_
 ·unfold pY;simp only [show ((k:Int)<(L.length:Int)) by omega,if_true,bh hk];obtain ⟨b,e,_,hb⟩:=JR s L[k] (hp _ (BY hk));rw [e];simp only [ap];cases b with
  |false=>simp only [sh,if_true,ap];exact .mk (.inr ⟨rfl,k,hk,λ⟨_,h,_⟩=>by rw [e] at h;cases h⟩)
  |true=>
   simp only [AI,eJ,if_false];by_cases c1:L[k].jo=view;rotate_left
   ·simp only [c1,decide_false,sh,if_true,ap];exact .mk (.inr ⟨rfl,k,hk,λ⟨_,_,h,_⟩=>c1 h⟩)
   simp only [c1,decide_true,AI,eJ,if_false,ap];have h0:=hb rfl;have jn: ∀x:Int,(match L[k-1]? with|some x=>if k=0 then-1 else x.By|none=> -1)=x->(L[k].By<=x↔ ¬(0<k->(L[k-1]'(by omega)).By<L[k].By)):=by
    intro x hx;rw [AT (by omega)] at hx;simp only at hx;by_cases hk0:k=0
    ·rw [if_pos hk0] at hx;subst hx;exact ⟨λh=>by omega,λh=>absurd (λh'=>by omega) h⟩
    ·rw [if_neg hk0] at hx;rw [<-hx];exact ⟨λh h'=>by have:=h' (by omega);omega,λh=>by refine Int.not_lt.1 λh2=>h λ_=>h2⟩
   generalize hx:(match L[k-1]? with|some x=>if k=0 then-1 else x.By|none=> -1)=x at jn;have jn:=jn x rfl;by_cases c2:L[k].By<=x
   ·simp only [c2,decide_true,if_true];exact .mk (.inr ⟨rfl,k,hk,λ⟨_,_,_,h⟩=>jn.1 c2 h⟩)
   ·simp only [c2,decide_false,eJ,if_false];rw [wrap64 (by omega) (by omega)];refine .mk ⟨?_,λj hj=> ?_⟩
    ·rw [show k+1-1=k by omega,AT hk];simp
    ·by_cases VY:j=k
     ·subst VY;exact ⟨hk,e,c1,λh=>by refine Int.not_le.1 λh2=>c2 (jn.2 λh3=> ?_);have:=h3 h;omega⟩
     ·exact FV j (by omega)
 ·unfold pY;simp only [show¬((L.length:Int)<(L.length:Int)) by omega,if_false];exact .mk (.inl ⟨rfl,FV⟩)
 ·rintro r (⟨rfl,h⟩|⟨rfl,k,hk,h⟩)
  ·exact .mk ⟨λ_=>⟨hs,hn,h⟩,λ_=>rfl⟩
  ·exact .mk ⟨λh=>(by cases h),λhr=>absurd (hr.2.2 k hk) h⟩
theorem Qh (s:af)(view:Int)(L:List ab)(hp: ∀r∈L,r.Proof.length<2^32)(hl:L.length<2^32):aL (Fg (xI s) view L) λb=>b=true↔TR s view L:=by
 unfold Fg;rw [pC];simp only [ap];by_cases hs:cr s;rotate_left
 ·simp only [hs,decide_false,sh,if_true,ap];exact .mk ⟨λh=>(by cases h),λh=>absurd h.1 hs⟩
 simp only [hs,decide_true,AI,eJ,if_false,Sk hs,ap];by_cases hn:(L.length:Int)=2 *s.F+2 *s.T+1;rotate_left
 ·simp only [hn,decide_false,sh,if_true];exact .mk ⟨λh=>(by cases h),λh=>absurd h.2.1 hn⟩
 simp only [hn,decide_true,AI,eJ,if_false];refine aL.bd (xz L.length (okR s view L) false (λk hk _=> ?_) ?_) ?_
 ·unfold z1;simp only [show ((k:Int)<(L.length:Int)) by omega,if_true,bh hk];obtain ⟨b,e',e,hb⟩:=JR s L[k] (hp _ (BY hk));rw [e];simp only [ap];rw [wrap64 (x:=(k:Int)+1) (by omega) (by omega),show (k:Int)+1=((k+1:Nat):Int) by omega];cases b with
  |false=>simp only [sh,if_true,ap];exact ⟨λ⟨_,h,_⟩=>(by rw [e'] at h;cases h),λ_=>trivial⟩
  |true=>
   simp only [AI,eJ,if_false];by_cases c1:L[k].jo=view;rotate_left
   ·simp only [c1,decide_false,sh,if_true,ap];exact ⟨λ⟨_,_,h,_⟩=>absurd h c1,λ_=>trivial⟩
   simp only [c1,decide_true,AI,eJ,if_false,ap];by_cases hk0:k=0
   ·subst hk0;simp only [Int.natCast_zero,Int.lt_irrefl,if_false,ap,eJ];exact ⟨λ_=>trivial,λh=>absurd ⟨hk,e',c1,λh=>by omega⟩ h⟩
   ·simp only [show ((0:Int)<(k:Int)) by omega,if_true];rw [wrap64 (by omega) (by omega),show (k:Int)-1=((k-1:Nat):Int) by omega,bh (by omega)];simp only [ap];by_cases c2:L[k].By<=L[k-1].By
    ·simp only [c2,decide_true,if_true];exact ⟨λ⟨_,_,_,h⟩=>by have:=h (by omega);omega,λ_=>trivial⟩
    ·simp only [c2,decide_false,eJ,if_false];exact ⟨λ_=>trivial,λh=>absurd ⟨hk,e',c1,λ_=>by omega⟩ h⟩
 ·unfold z1;simp only [show¬((L.length:Int)<(L.length:Int)) by omega,if_false]
 ·rintro r (⟨rfl,h⟩|⟨rfl,k,hk,h⟩)
  ·exact .mk ⟨λ_=>⟨hs,hn,h⟩,λ_=>rfl⟩
  ·exact .mk ⟨λh=>(by cases h),λhr=>absurd (hr.2.2 k hk) h⟩
end Dn.S
