import Derived.Test.YtmdlghpieagfhaaGreatDnPProof
/-
  Certificates: what may be, and what binds. Conditions: none.
-/
set_option linter.unusedVariables false
set_option linter.unusedSimpArgs false
open Bool renaming false_eq_true→cM,not_false→sh,not_true→AI
open List renaming getElem?_eq_getElem→AT
open Go Dn
namespace Dn.S
theorem iN {s:ae}(h:cC s):tw s=some (2 *s.F+2 *s.T+1):=h.cases (λs=>tw s=some (2 *s.F+2 *s.T+1)) (by decide+kernel)
theorem OL {s:ae}(h:cC s):ug s=some (s.F+s.T+1):=h.cases (λs=>ug s=some (s.F+s.T+1)) (by decide+kernel)
def rn (p:List aa):Int×List UInt8×Bool:=match p with|[]=>(-1,[],false)|e::_=>(e.View,e.Value,true)
theorem CQ (p:List aa):nS p=some (rn p):=by
 cases p with
 |nil=>rfl
 |cons e r=>unfold nS rn;rw [if_neg (by simp;omega)];rfl
theorem Fz (r:ab):lu r=some (rn r.Proof).1:=by unfold lu;rw [CQ];cases r.Proof<;>rfl
theorem Ri (s:ae)(r:ab)(hl:r.Proof.length<2^32):aL (jZ s r) λb=>b=true->0<=r.By:=by
 unfold jZ;obtain ⟨b,e,_⟩:=rm s r.Proof hl;rw [jO,Fz,e];simp only [au];by_cases hs:cC s;rotate_left
 ·simp only [hs,decide_false,sh,if_true,au];exact .mk λh=>(by cases h)
 simp only [hs,decide_true,AI,cM,if_false,qa hs,au];by_cases c1:r.By<0
 ·simp only [c1,if_true,au];exact .mk λh=>(by cases h)
 suffices h:aL _ λ_=>True from h.imp λ_ _ _=>Int.not_lt.1 c1
 simp only [amX,au];repeat' first|exact .mk trivial|refine aL.ite (λ_=> ?_) (λ_=> ?_)
def okR (s:ae)(view:Int)(L:List ab)(k:Nat):Prop:= ∃hk:k<L.length,jZ s L[k]=some true/\L[k].je=view/\(0<k->(L[k-1]'(by omega)).By<L[k].By)
def OM (s:ae)(view:Int)(L:List ab):Prop:=cC s/\(L.length:Int)=2 *s.F+2 *s.T+1/\ ∀k,k<L.length->okR s view L k
theorem Gx (s:ae)(view:Int)(L:List ab)(hp: ∀r∈L,r.Proof.length<2^32)(hl:L.length<2^32):aL (pB s view L) λb=>b=true↔OM s view L:=by
 unfold pB;rw [jO];simp only [au];by_cases hs:cC s;rotate_left
 ·simp only [hs,decide_false,sh,if_true,au];exact .mk ⟨λh=>(by cases h),λh=>absurd h.1 hs⟩
 simp only [hs,decide_true,AI,cM,if_false,iN hs,au];by_cases hn:(L.length:Int)=2 *s.F+2 *s.T+1;rotate_left
 ·simp only [hn,decide_false,sh,if_true];exact .mk ⟨λh=>(by cases h),λh=>absurd h.2.1 hn⟩
 simp only [hn,decide_true,AI,cM,if_false];refine aL.bd (P:=λr=>(r= .inl ()/\ ∀k,k<L.length->okR s view L k)\/(r= .inr false/\ ∃k,k<L.length/\ ¬okR s view L k)) (aL.count (λk=>(match L[k-1]? with|some x=>if k=0 then-1 else x.By|none=> -1,(k:Int))) L.length (λk=> ∀j,j<k->okR s view L j) (by cases L<;>rfl) (λj hj=>by omega) (λk hk GO=> ?_) (λGO=> ?_)) ?_
 ·unfold pA;simp only [show ((k:Int)<(L.length:Int)) by omega,if_true,bA hk];obtain ⟨b,e,hb⟩:=Ri s L[k] (hp _ (List.getElem_mem hk));rw [e];simp only [au];cases b with
  |false=>simp only [sh,if_true,au];exact .mk (.inr ⟨rfl,k,hk,λ⟨_,h,_⟩=>by rw [e] at h;cases h⟩)
  |true=>
   simp only [AI,cM,if_false];by_cases c1:L[k].je=view;rotate_left
   ·simp only [c1,decide_false,sh,if_true,au];exact .mk (.inr ⟨rfl,k,hk,λ⟨_,_,h,_⟩=>c1 h⟩)
   simp only [c1,decide_true,AI,cM,if_false,au];have h0:=hb rfl;have gm: ∀x:Int,(match L[k-1]? with|some x=>if k=0 then-1 else x.By|none=> -1)=x->(L[k].By<=x↔ ¬(0<k->(L[k-1]'(by omega)).By<L[k].By)):=by
    intro x hx;rw [AT (by omega)] at hx;simp only at hx;by_cases hk0:k=0
    ·rw [if_pos hk0] at hx;subst hx;exact ⟨λh=>by omega,λh=>absurd (λh'=>by omega) h⟩
    ·rw [if_neg hk0] at hx;rw [<-hx];exact ⟨λh h'=>by have:=h' (by omega);omega,λh=>by refine Int.not_lt.1 λh2=>h λ_=>h2⟩
   generalize hx:(match L[k-1]? with|some x=>if k=0 then-1 else x.By|none=> -1)=x at gm;have gm:=gm x rfl;by_cases c2:L[k].By<=x
   ·simp only [c2,decide_true,if_true];exact .mk (.inr ⟨rfl,k,hk,λ⟨_,_,_,h⟩=>gm.1 c2 h⟩)
   ·simp only [c2,decide_false,cM,if_false];rw [wrap64 (by omega) (by omega)];refine .mk ⟨?_,λj hj=> ?_⟩
    ·rw [show k+1-1=k by omega,AT hk];simp
    ·by_cases hjk:j=k
     ·subst hjk;exact ⟨hk,e,c1,λh=>by refine Int.not_le.1 λh2=>c2 (gm.2 λh3=> ?_);have:=h3 h;omega⟩
     ·exact GO j (by omega)
 ·unfold pA;simp only [show¬((L.length:Int)<(L.length:Int)) by omega,if_false];exact .mk (.inl ⟨rfl,GO⟩)
 ·rintro r (⟨rfl,h⟩|⟨rfl,k,hk,h⟩)
  ·exact .mk ⟨λ_=>⟨hs,hn,h⟩,λ_=>rfl⟩
  ·exact .mk ⟨λh=>(by cases h),λhr=>absurd (hr.2.2 k hk) h⟩
end Dn.S
