import Derived.Test.YtmdlghpieagfhaaGreatDnPProof
/-
  Acceptors: what may be, and what is alike. Conditions: none.
-/
set_option linter.unusedVariables false
set_option linter.unusedSimpArgs false
open Bool renaming false_eq_true→fj,not_true→sh,not_false→AI
open List renaming eq_nil_of_length_eq_zero→AT,getElem_mem→BY
open Int renaming natCast_zero→IN
open Go Dn
namespace Dn.S
def sr (a:aj):aN:=⟨vF a.S,a.Me,a.View,a.Has,a.At,a.Value,a.Proof,⟨a.bI.L⟩⟩
def GG (s:ak)(me:Int):aj×Int:=if cR s/\0<=me/\me<tF s then (⟨s,me,0,false,0,[],[],⟨[]⟩⟩,0) else (⟨⟨0,0⟩,0,0,false,0,[],[],⟨[]⟩⟩,1)
theorem HM (s:ak)(me:Int):nu s me=some (GG s me):=by
 unfold nu GG;simp only [nI,ar];by_cases hs:cR s
 ·simp only [hs,decide_true,sh,fj,if_false,true_and];by_cases h0:me<0
  ·simp only [h0,if_true,ar];rw [if_neg (by omega)]
  ·simp only [h0,if_false,vE hs,ar];by_cases h1:3 *s.F+2 *s.T+1<=me
   ·simp only [h1,decide_true,if_true];rw [if_neg (by unfold tF;omega)]
   ·simp only [h1,decide_false,fj,if_false];rw [if_pos (by unfold tF;omega)]
 ·simp [hs]
theorem CD (s:ak)(me:Int):wG (vF s) me=some (sr (GG s me).1,(GG s me).2):=by
 unfold wG GG;simp only [pL,ar];by_cases hs:cR s
 ·simp only [hs,decide_true,sh,fj,if_false,true_and];by_cases h0:me<0
  ·simp only [h0,if_true,ar];rw [if_neg (by omega)];rfl
  ·simp only [h0,if_false,uc hs,ar];by_cases h1:3 *s.F+2 *s.T+1<=me
   ·simp only [h1,decide_true,if_true];rw [if_neg (by unfold tF;omega)];rfl
   ·simp only [h1,decide_false,fj,if_false];rw [if_pos (by unfold tF;omega)];rfl
 ·simp [hs,sr,vF]
theorem My (a b:aN)(h1:a.Proof.length<2^60)(h2:a.bI.L.length<2^60):qw a b=some (decide (a=b)):=by obtain ⟨⟨s1,s2⟩,m,v,hs,at_,val,p,⟨vo⟩⟩:=a;obtain ⟨⟨t1,t2⟩,m',v',Dd,at',ayQ,p',⟨vo'⟩⟩:=b;unfold qw;simp only [pi _ _ h1,pi _ _ h2,ar,PT];by_cases c1:s1=t1<;>by_cases c2:s2=t2<;>by_cases c3:m=m'<;>by_cases c4:v=v'<;>by_cases c5:hs=Dd<;>by_cases c6:at_=at'<;>by_cases c7:val=ayQ<;>by_cases c8:p=p'<;>simp [c1,c2,c3,c4,c5,c6,c7,c8]
structure Es (a:aj):Prop where
 v0:0<=a.View
 v1:a.View<=100000
 has:a.Has=true->0<=a.At/\a.At<=a.View/\a.Value.length<=6000
 DD:a.Has=false->a.At=0/\a.Value=[]
 proof:a.Proof=[]\/(zW a.S a.Proof/\ ∀e∈a.Proof,e.View<=a.View)
structure iZ (a:aj):Prop where
 sz:cR a.S
 me0:0<=a.Me
 Wx:a.Me<tF a.S
 jP:Es a
 tG:qZ a.bI.L
 all: ∀e∈a.bI.L,e.By<tF a.S/\e.View=a.View
theorem Mz {s:ak}{p:List aa}{v:Int}(h:zW s p)(h0:0<p.length):(∀e∈p,e.View<=v)↔p[0].View<=v:=by
 constructor
 ·intro ha;exact ha _ (BY h0)
 ·intro ha e he;have:=(h.one e he _ (BY h0)).1;omega
theorem ae5 (a:aj)(hp:a.Proof.length<2^32):bD (eK a) λb=>b=true↔Es a:=by
 unfold eK;by_cases c1:a.View<0
 ·simp only [c1,if_true,ar];exact .mk ⟨λh=>(by cases h),λh=>by have:=h.v0;omega⟩
 by_cases c2:(100000:Int)<a.View
 ·simp only [c1,c2,if_true,if_false,ar,decide_true];exact .mk ⟨λh=>(by cases h),λh=>by have:=h.v1;omega⟩
 simp only [c1,c2,if_false,ar,decide_false,fj];have fin:(a.Has=true->0<=a.At/\a.At<=a.View/\a.Value.length<=6000)->(a.Has=false->a.At=0/\a.Value=[])-> bD (bd (if (a.Proof.length:Int)=0 then some true else bd (hU a.S a.Proof) λrA=>if rA then ix a.Proof 0 λy=>some (decide (y.View<=a.View)) else some false) λw3=>some w3) λb=>b=true↔Es a:=by
  intro g1 g2;simp only [PT];by_cases hl:a.Proof.length=0
  ·simp only [hl,IN,if_true];exact .mk ⟨λ_=>⟨by omega,by omega,g1,g2,.inl (AT hl)⟩,λ_=>rfl⟩
  ·obtain ⟨r,e,hr⟩:=sq a.S a.Proof hp;simp only [show¬((a.Proof.length:Int)=0) by omega,if_false,e,ar];cases r with
   |false=>
    simp only [fj,if_false];refine .mk ⟨λh=>(by cases h),λh=> ?_⟩;rcases h.proof with h1|⟨h1,_⟩
    ·rw [h1] at hl;exact absurd rfl hl
    ·have:=hr.2 h1;cases this
   |true=>
    have hrp:=hr.1 rfl;have h0:0<a.Proof.length:=by omega
    simp only [if_true,iK h0];refine .mk ?_;rw [decide_eq_true_iff,<-Mz hrp h0];exact ⟨λh=>⟨by omega,by omega,g1,g2,.inr ⟨hrp,h⟩⟩,λh=>by
     rcases h.proof with h1|⟨_,h1⟩
     ·rw [h1] at hl;exact absurd rfl hl
     ·exact h1⟩
 cases hh:a.Has with
 |true=>
  simp only [if_true,sh,fj,if_false,ar];by_cases c3:a.At<0
  ·simp only [c3,if_true,ar];exact .mk ⟨λh=>(by cases h),λh=>by have:=(h.has hh).1;omega⟩
  by_cases c4:a.View<a.At
  ·simp only [c3,c4,if_true,if_false,ar];exact .mk ⟨λh=>(by cases h),λh=>by have:=(h.has hh).2.1;omega⟩
  by_cases c5:(6000:Int)<(a.Value.length:Int)
  ·simp only [c3,c4,c5,if_true,if_false,ar,decide_true];exact .mk ⟨λh=>(by cases h),λh=>by have:=(h.has hh).2.2;omega⟩
  simp only [c3,c4,c5,if_false,ar,decide_false,fj];exact fin (λ_=>by omega) (λh=>by rw [hh] at h;cases h)
 |false=>
  simp only [fj,if_false,ar,AI,if_true];by_cases c3:a.At=0;rotate_left
  ·simp only [c3,decide_false,AI,if_true,ar];exact .mk ⟨λh=>(by cases h),λh=>absurd (h.DD hh).1 c3⟩
  by_cases c4:a.Value=[];rotate_left
  ·simp only [c3,c4,decide_true,decide_false,sh,AI,fj,if_true,if_false,ar];exact .mk ⟨λh=>(by cases h),λh=>absurd (h.DD hh).2 c4⟩
  simp only [c3,c4,decide_true,sh,fj,if_false,ar];exact fin (λh=>by rw [hh] at h;cases h) (λ_=>⟨c3,c4⟩)
theorem UP (a:aj)(hp:a.Proof.length<2^32)(hv:a.bI.L.length<2^32):bD (uo (sr a)) λb=>b=true↔iZ a:=by
 unfold uo;have e0:wG (sr a).S (sr a).Me=some (sr (GG a.S a.Me).1,(GG a.S a.Me).2):=CD a.S a.Me;rw [e0];simp only [ar];unfold GG;by_cases hn:cR a.S/\0<=a.Me/\a.Me<tF a.S;rotate_left
 ·rw [if_neg hn];simp only [show¬((1:Int)=0) by decide,decide_false,AI,if_true,ar];exact .mk ⟨λh=>(by cases h),λh=>absurd ⟨h.sz,h.me0,h.Wx⟩ hn⟩
 rw [if_pos hn];obtain ⟨r2,e2,h2⟩:=UM a.bI.L (by omega);have e2:um (sr a).bI=some r2:=e2;simp only [decide_true,sh,fj,if_false,ar,e2];show bD (bd (if a.View<0 then some true else if (100000:Int)<a.View then some true else some (!r2)) _) _;by_cases c1:a.View<0
 ·simp only [c1,if_true,ar];exact .mk ⟨λh=>(by cases h),λh=>by have:=h.jP.v0;omega⟩
 by_cases c2:(100000:Int)<a.View
 ·simp only [c1,c2,if_true,if_false,ar];exact .mk ⟨λh=>(by cases h),λh=>by have:=h.jP.v1;omega⟩
 simp only [c1,c2,if_false,ar];cases r2 with
 |false=>simp only [AI,if_true];exact .mk ⟨λh=>(by cases h),λh=>by have:=h2.2 h.tG;cases this⟩
 |true=>
 simp only [sh,fj,if_false];have fin:(a.Has=true->0<=a.At/\a.At<=a.View/\a.Value.length<=6000)->(a.Has=false->a.At=0/\a.Value=[])-> bD (bd (if (0:Int)<((sr a).Proof.length:Int) then bd (kz (sr a).S (sr a).Proof) λbH=>if !bH then some true else ix (sr a).Proof 0 λy=>some (decide ((sr a).View<y.View)) else some false) λw2=>if w2 then some false else bd (Loop (pC (sr a)) 0) λw3=>match w3 with| .inl p1=>some true| .inr p2=>some p2) λb=>b=true↔iZ a:=by
  intro g1 g2;have last:(a.Proof=[]\/(zW a.S a.Proof/\ ∀e∈a.Proof,e.View<=a.View))->bD (bd (Loop (pC (sr a)) 0) λw3=>match w3 with| .inl p1=>some true| .inr p2=>some p2) λb=>b=true↔iZ a:=by
   intro g3;refine bD.bd (yI a.bI.L.length (λk=> ∃hk:k<a.bI.L.length,a.bI.L[k].By<tF a.S/\a.bI.L[k].View=a.View) false (λk hk _=> ?_) ?_) ?_
   ·unfold pC;have en:sL (sr a).S=some (3 *a.S.F+2 *a.S.T+1):=uc hn.1;have el:(sr a).bI.L=a.bI.L:=rfl;have ew:(sr a).View=a.View:=rfl;simp only [el,ew,show ((k:Int)<(a.bI.L.length:Int)) by omega,if_true,bP hk,en,ar];rw [wrap64 (x:=(k:Int)+1) (by omega) (by omega),show (k:Int)+1=((k+1:Nat):Int) by omega];by_cases c1:3 *a.S.F+2 *a.S.T+1<=a.bI.L[k].By
    ·rw [if_pos c1];simp only [ar,if_true];exact ⟨λ⟨_,h,_⟩=>by unfold tF at h;omega,λ_=>trivial⟩
    ·rw [if_neg c1];simp only [ar];by_cases c2:a.bI.L[k].View=a.View
     ·rw [decide_eq_true c2];simp only [sh,fj,if_false];exact ⟨λ_=>trivial,λh=>absurd ⟨hk,by unfold tF;omega,c2⟩ h⟩
     ·rw [decide_eq_false c2];simp only [AI,if_true];exact ⟨λ⟨_,_,h⟩=>absurd h c2,λ_=>trivial⟩
   ·unfold pC;have el:(sr a).bI.L=a.bI.L:=rfl;simp only [el,show¬((a.bI.L.length:Int)<(a.bI.L.length:Int)) by omega,if_false]
   ·rintro r (⟨rfl,h⟩|⟨rfl,k,hk,h⟩)
    ·refine .mk ⟨λ_=>⟨hn.1,hn.2.1,hn.2.2,⟨by omega,by omega,g1,g2,g3⟩,h2.1 rfl,λe he=> ?_⟩,λ_=>rfl⟩;obtain ⟨k,hk,rfl⟩:=List.mem_iff_getElem.1 he;exact (h k hk).2
    ·exact .mk ⟨λh=>(by cases h),λhr=>absurd ⟨hk,hr.all _ (BY hk)⟩ h⟩
  show bD (bd (if (0:Int)<(a.Proof.length:Int) then bd (kz (vF a.S) a.Proof) λbH=>if !bH then some true else ix a.Proof 0 λy=>some (decide (a.View<y.View)) else some false) _) _;by_cases hl:a.Proof.length=0
  ·simp only [hl,IN,Int.lt_irrefl,if_false,ar,fj];exact last (.inl (AT hl))
  ·obtain ⟨r,e,hr⟩:=BL a.S a.Proof hp;have h0:0<a.Proof.length:=by omega
   simp only [show ((0:Int)<(a.Proof.length:Int)) by omega,if_true,e,ar];cases r with
   |false=>
    simp only [AI,if_true,ar];refine .mk ⟨λh=>(by cases h),λh=> ?_⟩;rcases h.jP.proof with h1|⟨h1,_⟩
    ·rw [h1] at hl;exact absurd rfl hl
    ·have:=hr.2 h1;cases this
   |true=>
    have hrp:=hr.1 rfl;simp only [sh,fj,if_false,iK h0,ar];by_cases hw:a.View<a.Proof[0].View
    ·simp only [hw,decide_true,if_true];refine .mk ⟨λh=>(by cases h),λh=> ?_⟩;rcases h.jP.proof with h1|⟨_,h1⟩
     ·rw [h1] at hl;exact absurd rfl hl
     ·have:=(Mz hrp h0).1 h1;omega
    ·simp only [hw,decide_false,fj,if_false];exact last (.inr ⟨hrp,(Mz hrp h0).2 (by omega)⟩)
 show bD (bd (if a.Has then if a.At<0 then some true else if a.View<a.At then some true else if (6000:Int)<(a.Value.length:Int) then some true else if !a.Has then (if !decide (a.At=0) then some true else some (!decide (a.Value=([]:List UInt8)))) else some false else if !a.Has then (if !decide (a.At=0) then some true else some (!decide (a.Value=([]:List UInt8)))) else some false) _) _;cases hh:a.Has with
 |true=>
  simp only [if_true,sh,fj,if_false,ar];by_cases c3:a.At<0
  ·simp only [c3,if_true,ar];exact .mk ⟨λh=>(by cases h),λh=>by have:=(h.jP.has hh).1;omega⟩
  by_cases c4:a.View<a.At
  ·simp only [c3,c4,if_true,if_false,ar];exact .mk ⟨λh=>(by cases h),λh=>by have:=(h.jP.has hh).2.1;omega⟩
  by_cases c5:(6000:Int)<(a.Value.length:Int)
  ·simp only [c3,c4,c5,if_true,if_false,ar];exact .mk ⟨λh=>(by cases h),λh=>by have:=(h.jP.has hh).2.2;omega⟩
  simp only [c3,c4,c5,if_false,ar,fj];exact fin (λ_=>by omega) (λh=>by rw [hh] at h;cases h)
 |false=>
  simp only [fj,if_false,AI,if_true];by_cases c3:a.At=0;rotate_left
  ·simp only [c3,decide_false,AI,if_true,ar];exact .mk ⟨λh=>(by cases h),λh=>absurd (h.jP.DD hh).1 c3⟩
  by_cases c4:a.Value=[];rotate_left
  ·simp only [c3,c4,decide_true,decide_false,sh,AI,fj,if_true,if_false,ar];exact .mk ⟨λh=>(by cases h),λh=>absurd (h.jP.DD hh).2 c4⟩
  simp only [c3,c4,decide_true,sh,fj,if_false,ar];exact fin (λh=>by rw [hh] at h;cases h) (λ_=>⟨c3,c4⟩)
end Dn.S
