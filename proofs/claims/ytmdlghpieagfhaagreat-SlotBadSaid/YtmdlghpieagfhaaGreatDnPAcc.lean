import Derived.Test.YtmdlghpieagfhaaGreatDnPProof
/-
  Acceptors: what may be, and what is alike. Conditions: none.
-/
set_option linter.unusedVariables false
set_option linter.unusedSimpArgs false
open Bool renaming false_eq_true→eJ,not_true→sh,not_false→AI
open List renaming eq_nil_of_length_eq_zero→AT,getElem_mem→BY
open Int renaming natCast_zero→IN
open Go Dn
namespace Dn.S
def u5 (a:ae):br:=⟨xI a.S,a.Me,a.View,a.Has,a.At,a.Value,a.Proof,⟨a.bV.L⟩⟩
def FH (s:af)(me:Int):ae×Int:=if cr s/\0<=me/\me<uI s then (⟨s,me,0,false,0,[],[],⟨[]⟩⟩,0) else (⟨⟨0,0⟩,0,0,false,0,[],[],⟨[]⟩⟩,1)
theorem Mh (s:af)(me:Int):nw s me=some (FH s me):=by
 unfold nw FH;simp only [nN,ap];by_cases hs:cr s
 ·simp only [hs,decide_true,sh,eJ,if_false,true_and];by_cases h0:me<0
  ·simp only [h0,if_true,ap];rw [if_neg (by omega)]
  ·simp only [h0,if_false,uH hs,ap];by_cases h1:3 *s.F+2 *s.T+1<=me
   ·simp only [h1,decide_true,if_true];rw [if_neg (by unfold uI;omega)]
   ·simp only [h1,decide_false,eJ,if_false];rw [if_pos (by unfold uI;omega)]
 ·simp [hs]
theorem FI (s:af)(me:Int):A7 (xI s) me=some (u5 (FH s me).1,(FH s me).2):=by
 unfold A7 FH;simp only [pC,ap];by_cases hs:cr s
 ·simp only [hs,decide_true,sh,eJ,if_false,true_and];by_cases h0:me<0
  ·simp only [h0,if_true,ap];rw [if_neg (by omega)];rfl
  ·simp only [h0,if_false,Bn hs,ap];by_cases h1:3 *s.F+2 *s.T+1<=me
   ·simp only [h1,decide_true,if_true];rw [if_neg (by unfold uI;omega)];rfl
   ·simp only [h1,decide_false,eJ,if_false];rw [if_pos (by unfold uI;omega)];rfl
 ·simp [hs,u5,xI]
theorem Sj (a b:ae)(h1:a.Proof.length<2^60)(h2:a.bV.L.length<2^60):oo a b=some (decide (a=b)):=by obtain ⟨⟨s1,s2⟩,m,v,hs,at_,val,p,⟨vo⟩⟩:=a;obtain ⟨⟨t1,t2⟩,m',v',BQ,at',aoh,p',⟨vo'⟩⟩:=b;unfold oo;simp only [lm _ _ h1,lm _ _ h2,ap,JI];by_cases c1:s1=t1<;>by_cases c2:s2=t2<;>by_cases c3:m=m'<;>by_cases c4:v=v'<;>by_cases c5:hs=BQ<;>by_cases c6:at_=at'<;>by_cases c7:val=aoh<;>by_cases c8:p=p'<;>simp [c1,c2,c3,c4,c5,c6,c7,c8]
structure C3 (a:ae):Prop where
 v0:0<=a.View
 v1:a.View<=100000
 has:a.Has=true->0<=a.At/\a.At<=a.View/\a.Value.length<=6000
 Ce:a.Has=false->a.At=0/\a.Value=[]
 proof:a.Proof=[]\/(Az a.S a.Proof/\ ∀e∈a.Proof,e.View<=a.View)
structure iK (a:ae):Prop where
 sz:cr a.S
 me0:0<=a.Me
 YD:a.Me<uI a.S
 jc:C3 a
 uJ:qz a.bV.L
 all: ∀e∈a.bV.L,e.By<uI a.S/\e.View=a.View
theorem JQ {s:af}{p:List aa}{v:Int}(h:Az s p)(h0:0<p.length):(∀e∈p,e.View<=v)↔p[0].View<=v:=by
 constructor
 ·intro ha;exact ha _ (BY h0)
 ·intro ha e he;have:=(h.one e he _ (BY h0)).1;omega
theorem Y7 (a:ae)(hp:a.Proof.length<2^32):aL (et a) λb=>b=true↔C3 a:=by
 unfold et;by_cases c1:a.View<0
 ·simp only [c1,if_true,ap];exact .mk ⟨λh=>(by cases h),λh=>by have:=h.v0;omega⟩
 by_cases c2:(100000:Int)<a.View
 ·simp only [c1,c2,if_true,if_false,ap,decide_true];exact .mk ⟨λh=>(by cases h),λh=>by have:=h.v1;omega⟩
 simp only [c1,c2,if_false,ap,decide_false,eJ];have fin:(a.Has=true->0<=a.At/\a.At<=a.View/\a.Value.length<=6000)->(a.Has=false->a.At=0/\a.Value=[])-> aL (bd (if (a.Proof.length:Int)=0 then some true else bd (gV a.S a.Proof) λrA=>if rA then ix a.Proof 0 λy=>some (decide (y.View<=a.View)) else some false) λw3=>some w3) λb=>b=true↔C3 a:=by
  intro g1 g2;simp only [JI];by_cases hl:a.Proof.length=0
  ·simp only [hl,IN,if_true];exact .mk ⟨λ_=>⟨by omega,by omega,g1,g2,.inl (AT hl)⟩,λ_=>rfl⟩
  ·obtain ⟨r,e,hr⟩:=rN a.S a.Proof hp;simp only [show¬((a.Proof.length:Int)=0) by omega,if_false,e,ap];cases r with
   |false=>
    simp only [eJ,if_false];refine .mk ⟨λh=>(by cases h),λh=> ?_⟩;rcases h.proof with h1|⟨h1,_⟩
    ·rw [h1] at hl;exact absurd rfl hl
    ·have:=hr.2 h1;cases this
   |true=>
    have ZL:=hr.1 rfl;have h0:0<a.Proof.length:=by omega
    simp only [if_true,jT h0];refine .mk ?_;rw [decide_eq_true_iff,<-JQ ZL h0];exact ⟨λh=>⟨by omega,by omega,g1,g2,.inr ⟨ZL,h⟩⟩,λh=>by
     rcases h.proof with h1|⟨_,h1⟩
     ·rw [h1] at hl;exact absurd rfl hl
     ·exact h1⟩
 cases hh:a.Has with
 |true=>
  simp only [if_true,sh,eJ,if_false,ap];by_cases c3:a.At<0
  ·simp only [c3,if_true,ap];exact .mk ⟨λh=>(by cases h),λh=>by have:=(h.has hh).1;omega⟩
  by_cases c4:a.View<a.At
  ·simp only [c3,c4,if_true,if_false,ap];exact .mk ⟨λh=>(by cases h),λh=>by have:=(h.has hh).2.1;omega⟩
  by_cases c5:(6000:Int)<(a.Value.length:Int)
  ·simp only [c3,c4,c5,if_true,if_false,ap,decide_true];exact .mk ⟨λh=>(by cases h),λh=>by have:=(h.has hh).2.2;omega⟩
  simp only [c3,c4,c5,if_false,ap,decide_false,eJ];exact fin (λ_=>by omega) (λh=>by rw [hh] at h;cases h)
 |false=>
  simp only [eJ,if_false,ap,AI,if_true];by_cases c3:a.At=0;rotate_left
  ·simp only [c3,decide_false,AI,if_true,ap];exact .mk ⟨λh=>(by cases h),λh=>absurd (h.Ce hh).1 c3⟩
  by_cases c4:a.Value=[];rotate_left
  ·simp only [c3,c4,decide_true,decide_false,sh,AI,eJ,if_true,if_false,ap];exact .mk ⟨λh=>(by cases h),λh=>absurd (h.Ce hh).2 c4⟩
  simp only [c3,c4,decide_true,sh,eJ,if_false,ap];exact fin (λh=>by rw [hh] at h;cases h) (λ_=>⟨c3,c4⟩)
theorem Qc (a:ae)(hp:a.Proof.length<2^32)(hv:a.bV.L.length<2^32):aL (Bc (u5 a)) λb=>b=true↔iK a:=by
 unfold Bc;have e0:A7 (u5 a).S (u5 a).Me=some (u5 (FH a.S a.Me).1,(FH a.S a.Me).2):=FI a.S a.Me;rw [e0];simp only [ap];unfold FH;by_cases hn:cr a.S/\0<=a.Me/\a.Me<uI a.S;rotate_left
 ·rw [if_neg hn];simp only [show¬((1:Int)=0) by decide,decide_false,AI,if_true,ap];exact .mk ⟨λh=>(by cases h),λh=>absurd ⟨h.sz,h.me0,h.YD⟩ hn⟩
 rw [if_pos hn];obtain ⟨r2,e2,h2⟩:=P8 a.bV.L (by omega);have e2:Bb (u5 a).bV=some r2:=e2;simp only [decide_true,sh,eJ,if_false,ap,e2];show aL (bd (if a.View<0 then some true else if (100000:Int)<a.View then some true else some (!r2)) _) _;by_cases c1:a.View<0
 ·simp only [c1,if_true,ap];exact .mk ⟨λh=>(by cases h),λh=>by have:=h.jc.v0;omega⟩
 by_cases c2:(100000:Int)<a.View
 ·simp only [c1,c2,if_true,if_false,ap];exact .mk ⟨λh=>(by cases h),λh=>by have:=h.jc.v1;omega⟩
 simp only [c1,c2,if_false,ap];cases r2 with
 |false=>simp only [AI,if_true];exact .mk ⟨λh=>(by cases h),λh=>by have:=h2.2 h.uJ;cases this⟩
 |true=>
 simp only [sh,eJ,if_false];have fin:(a.Has=true->0<=a.At/\a.At<=a.View/\a.Value.length<=6000)->(a.Has=false->a.At=0/\a.Value=[])-> aL (bd (if (0:Int)<((u5 a).Proof.length:Int) then bd (po (u5 a).S (u5 a).Proof) λbQ=>if !bQ then some true else ix (u5 a).Proof 0 λy=>some (decide ((u5 a).View<y.View)) else some false) λw2=>if w2 then some false else bd (Loop (r7 (u5 a)) 0) λw3=>match w3 with| .inl p1=>some true| .inr p2=>some p2) λb=>b=true↔iK a:=by
  intro g1 g2;have last:(a.Proof=[]\/(Az a.S a.Proof/\ ∀e∈a.Proof,e.View<=a.View))->aL (bd (Loop (r7 (u5 a)) 0) λw3=>match w3 with| .inl p1=>some true| .inr p2=>some p2) λb=>b=true↔iK a:=by
   intro g3;refine aL.bd (xz a.bV.L.length (λk=> ∃hk:k<a.bV.L.length,a.bV.L[k].By<uI a.S/\a.bV.L[k].View=a.View) false (λk hk _=> ?_) ?_) ?_
   ·unfold r7;have en:yP (u5 a).S=some (3 *a.S.F+2 *a.S.T+1):=Bn hn.1;have el:(u5 a).bV.L=a.bV.L:=rfl;have ew:(u5 a).View=a.View:=rfl;simp only [el,ew,show ((k:Int)<(a.bV.L.length:Int)) by omega,if_true,bh hk,en,ap];rw [wrap64 (x:=(k:Int)+1) (by omega) (by omega),show (k:Int)+1=((k+1:Nat):Int) by omega];by_cases c1:3 *a.S.F+2 *a.S.T+1<=a.bV.L[k].By
    ·rw [if_pos c1];simp only [ap,if_true];exact ⟨λ⟨_,h,_⟩=>by unfold uI at h;omega,λ_=>trivial⟩
    ·rw [if_neg c1];simp only [ap];by_cases c2:a.bV.L[k].View=a.View
     ·rw [decide_eq_true c2];simp only [sh,eJ,if_false];exact ⟨λ_=>trivial,λh=>absurd ⟨hk,by unfold uI;omega,c2⟩ h⟩
     ·rw [decide_eq_false c2];simp only [AI,if_true];exact ⟨λ⟨_,_,h⟩=>absurd h c2,λ_=>trivial⟩
   ·unfold r7;have el:(u5 a).bV.L=a.bV.L:=rfl;simp only [el,show¬((a.bV.L.length:Int)<(a.bV.L.length:Int)) by omega,if_false]
   ·rintro r (⟨rfl,h⟩|⟨rfl,k,hk,h⟩)
    ·refine .mk ⟨λ_=>⟨hn.1,hn.2.1,hn.2.2,⟨by omega,by omega,g1,g2,g3⟩,h2.1 rfl,λe he=> ?_⟩,λ_=>rfl⟩;obtain ⟨k,hk,rfl⟩:=List.mem_iff_getElem.1 he;exact (h k hk).2
    ·exact .mk ⟨λh=>(by cases h),λhr=>absurd ⟨hk,hr.all _ (BY hk)⟩ h⟩
  show aL (bd (if (0:Int)<(a.Proof.length:Int) then bd (po (xI a.S) a.Proof) λbQ=>if !bQ then some true else ix a.Proof 0 λy=>some (decide (a.View<y.View)) else some false) _) _;by_cases hl:a.Proof.length=0
  ·simp only [hl,IN,Int.lt_irrefl,if_false,ap,eJ];exact last (.inl (AT hl))
  ·obtain ⟨r,e,hr⟩:=GA a.S a.Proof hp;have h0:0<a.Proof.length:=by omega
   simp only [show ((0:Int)<(a.Proof.length:Int)) by omega,if_true,e,ap];cases r with
   |false=>
    simp only [AI,if_true,ap];refine .mk ⟨λh=>(by cases h),λh=> ?_⟩;rcases h.jc.proof with h1|⟨h1,_⟩
    ·rw [h1] at hl;exact absurd rfl hl
    ·have:=hr.2 h1;cases this
   |true=>
    have ZL:=hr.1 rfl;simp only [sh,eJ,if_false,jT h0,ap];by_cases hw:a.View<a.Proof[0].View
    ·simp only [hw,decide_true,if_true];refine .mk ⟨λh=>(by cases h),λh=> ?_⟩;rcases h.jc.proof with h1|⟨_,h1⟩
     ·rw [h1] at hl;exact absurd rfl hl
     ·have:=(JQ ZL h0).1 h1;omega
    ·simp only [hw,decide_false,eJ,if_false];exact last (.inr ⟨ZL,(JQ ZL h0).2 (by omega)⟩)
 show aL (bd (if a.Has then if a.At<0 then some true else if a.View<a.At then some true else if (6000:Int)<(a.Value.length:Int) then some true else if !a.Has then (if !decide (a.At=0) then some true else some (!decide (a.Value=([]:List UInt8)))) else some false else if !a.Has then (if !decide (a.At=0) then some true else some (!decide (a.Value=([]:List UInt8)))) else some false) _) _;cases hh:a.Has with
 |true=>
  simp only [if_true,sh,eJ,if_false,ap];by_cases c3:a.At<0
  ·simp only [c3,if_true,ap];exact .mk ⟨λh=>(by cases h),λh=>by have:=(h.jc.has hh).1;omega⟩
  by_cases c4:a.View<a.At
  ·simp only [c3,c4,if_true,if_false,ap];exact .mk ⟨λh=>(by cases h),λh=>by have:=(h.jc.has hh).2.1;omega⟩
  by_cases c5:(6000:Int)<(a.Value.length:Int)
  ·simp only [c3,c4,c5,if_true,if_false,ap];exact .mk ⟨λh=>(by cases h),λh=>by have:=(h.jc.has hh).2.2;omega⟩
  simp only [c3,c4,c5,if_false,ap,eJ];exact fin (λ_=>by omega) (λh=>by rw [hh] at h;cases h)
 |false=>
  simp only [eJ,if_false,AI,if_true];by_cases c3:a.At=0;rotate_left
  ·simp only [c3,decide_false,AI,if_true,ap];exact .mk ⟨λh=>(by cases h),λh=>absurd (h.jc.Ce hh).1 c3⟩
  by_cases c4:a.Value=[];rotate_left
  ·simp only [c3,c4,decide_true,decide_false,sh,AI,eJ,if_true,if_false,ap];exact .mk ⟨λh=>(by cases h),λh=>absurd (h.jc.Ce hh).2 c4⟩
  simp only [c3,c4,decide_true,sh,eJ,if_false,ap];exact fin (λh=>by rw [hh] at h;cases h) (λ_=>⟨c3,c4⟩)
end Dn.S
