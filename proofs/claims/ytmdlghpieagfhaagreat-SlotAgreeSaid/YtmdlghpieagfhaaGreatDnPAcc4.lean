import Derived.Test.YtmdlghpieagfhaaGreatDnPAcc3
/-
  Acceptors that are loaded. Conditions: none.
-/
set_option linter.unusedVariables false
set_option linter.unusedSimpArgs false
open List renaming replicate→cM,length_replicate→AT,nil_append→IT,length_nil→No,getElem_append_right→OF,set_append_right→aaU,append_assoc→aaW,map_nil→abK
open Bool renaming false_eq_true→sh,not_false→AI,not_true→aaT,not_eq_true'→aa1
open Int renaming natCast_zero→BY,toNat_natCast→aaf
open Nat renaming le_refl→abX
open Go Dn
namespace Dn.S
theorem xk {b:List Int}(hb:tD b)(hl:b.length<2^40):b5 ⟨b,0⟩=some (match ln b with|some (n,r)=>(n,⟨r,0⟩)|none=>(0,⟨[],Ko b⟩)):=by
 unfold b5;simp only [if_true];rw [Ly hb hl,au,au];cases ln b with
 |none=>rfl
 |some p=>rfl
theorem tH {t:aO}(he:t.e≠0):b5 t=some (0,t):=by unfold b5;rw [if_neg he,au]
theorem M1 {b:List Int}(hb:tD b)(hl:b.length<2^40):(∃s r,vM b 6000=some (s,r)/\df ⟨b,0⟩=some (s,⟨r,0⟩))\/(vM b 6000=none/\ ∃s t,t.e≠0/\df ⟨b,0⟩=some (s,t)):=by
 unfold df;simp only [if_true];have e:kp b 6000=some (tkT b 6000):=Kq (most:=6000) hb hl (by decide);rw [e,au,au];rcases Xr b 6000 with ⟨s,r,h1,h2⟩|⟨h1,e,he,h2⟩
 ·exact .inl ⟨s,r,h1,by rw [h2]⟩
 ·exact .inr ⟨h1,[],⟨[],e⟩,he,by rw [h2]⟩
theorem uF {t:aO}(he:t.e≠0):df t=some ([],t):=by unfold df;rw [if_neg he,au]
theorem Rt {t:aO}(he:t.e≠0):dw t=some ([],t):=by unfold dw;rw [tH he];simp only [au,show¬((0:Int)<0) by decide,if_false,show decide ((100:Int)<0)=false by decide,sh,he,decide_false,AI,if_true]
def zA:aa:=⟨0,0,[]⟩
def qj (y:Int):aa:=⟨y,0,[]⟩
theorem abN {rA:Int×aO}{N:Nat}(hN:rA.1=(N:Int))(am4:N<=100){b:List Int}{e:Int}(he:e≠0): ∀(d k:Nat) (arr:List aa),k+d=N->arr.length=N-> ∃zH,zH.length=N/\Loop (b6 rA) (arr,(k:Int),b,e)=some (zH,b,e):=by
 intro d;induction d with
 |zero=>intro k arr hk ha;refine ⟨arr,ha,AH ?_⟩;unfold b6;simp only;rw [AT,hN,if_neg (by omega)]
 |succ d ih=>intro k arr hk ha;obtain ⟨zH,hx,h⟩:=ih (k+1) (arr.set k ⟨0,(arr[k]'(by omega)).View,(arr[k]'(by omega)).Value⟩) (by omega) (by rw [List.length_set];exact ha);refine ⟨zH,hx,qR ?_ h⟩;unfold b6;simp only;rw [AT,hN,if_pos (by omega),tH he,au,bA (by omega),wrap64 (by omega) (by omega),aaf];rfl
theorem arL {rA:Int×aO}{N:Nat}(hN:rA.1=(N:Int))(am4:N<=100): ∀(d:Nat) (pre:List Int) (b:List Int),tD b->b.length<2^40->pre.length+d=N-> (∃l r,uD d b=some (l,r)/\Loop (b6 rA) (pre.map qj++cM d zA,(pre.length:Int),b,0)=some ((pre++l).map qj,r,0))\/ (uD d b=none/\ ∃arr r e,e≠0/\arr.length=N/\Loop (b6 rA) (pre.map qj++cM d zA,(pre.length:Int),b,0)=some (arr,r,e)):=by
 intro d;induction d with
 |zero=>intro pre b hb hl hk;refine .inl ⟨[],b,rfl,AH ?_⟩;unfold b6;simp only;rw [AT,hN,if_neg (by omega)];simp
 |succ d ih=>
  intro pre b hb hl hk;have hlen:(pre.map qj++cM (d+1) zA).length=N:=by simp;omega
  have tU:(pre.map qj++cM (d+1) zA)[pre.length]'(by omega)=zA:=by rw [OF (by simp)];simp
  have Sq: ∀v,(pre.map qj++cM (d+1) zA).set pre.length v=pre.map qj++v::cM d zA:=by intro v;rw [aaU _ _ (by simp)];simp [List.replicate_succ]
  have BP: ∀n r e,b5 ⟨b,0⟩=some (n,⟨r,e⟩)->b6 rA (pre.map qj++cM (d+1) zA,(pre.length:Int),b,0)=some (.inl ((pre++[n]).map qj++cM d zA,((pre.length+1:Nat):Int),r,e)):=by intro n r e ht;unfold b6;simp only;rw [AT,hN,if_pos (by omega),ht,au,bA (by omega),tU,wrap64 (by omega) (by omega),aaf,Sq,List.map_append,aaW];rfl
  have mW:=xk hb hl;simp only [uD];cases ht:ln b with
  |none=>rw [ht] at mW;obtain ⟨zH,hx,h⟩:=abN hN am4 (b:=[]) (jQ b) d (pre.length+1) ((pre++[0]).map qj++cM d zA) (by omega) (by simp;omega);exact .inr ⟨rfl,zH,[],Ko b,jQ b,hx,qR (BP _ _ _ mW) h⟩
  |some p=>
   obtain ⟨n,r⟩:=p;rw [ht] at mW;obtain ⟨_,_,hr⟩:=kW hb ht;have hrl:=oO ht;simp only;have e2:((pre.length+1:Nat):Int)=((pre++[n]).length:Int):=by simp
   rcases ih (pre++[n]) r hr (by omega) (by simp;omega) with ⟨l,r',h1,h2⟩|⟨h1,arr,r',e,he,hx,h2⟩
   ·refine .inl ⟨n::l,r',by rw [h1],qR (BP _ _ _ mW) ?_⟩;rw [e2,h2,aaW];rfl
   ·refine .inr ⟨by rw [h1],arr,r',e,he,hx,qR (BP _ _ _ mW) ?_⟩;rw [e2,h2]
theorem aeB {w3:List aa×List Int×Int}{ca:Int×aO}{cG:List UInt8×aO}(hl:w3.1.length<2^40): ∀(R L:List aa),(L++R).length=w3.1.length->Loop (fF w3 ca cG) (L++R,(L.length:Int))=some (L++R.map λy=>⟨y.By,ca.1,cG.1⟩):=by
 intro R;induction R with
 |nil=>intro L h;refine AH ?_;unfold fF;simp only [List.append_nil,abK] at *;rw [if_neg (by omega)]
 |cons c R ih=>
  intro L h;have h2:L.length<(L++c::R).length:=by simp
  have tU: ∀(d:aa) (hh:L.length<(L++d::R).length),(L++d::R)[L.length]'hh=d:=by intro d hh;rw [OF (abX _)];simp
  have Sq: ∀d v:aa,(L++d::R).set L.length v=L++v::R:=by intro d v;rw [aaU _ _ (abX _)];simp
  have hih:=ih (L++[⟨c.By,ca.1,cG.1⟩]) (by simp at *;omega);refine qR (s':=(L++[⟨c.By,ca.1,cG.1⟩]++R,((L++[⟨c.By,ca.1,cG.1⟩]:List aa).length:Int))) ?_ ?_
  ·unfold fF;simp only;rw [if_pos (by omega),bA h2,tU,aaf,Sq,bA (by simp),tU,Sq,wrap64 (by omega) (by omega)];simp
  ·rw [hih];simp
theorem TY {b:List Int}(hb:tD b)(hl:b.length<2^40):aL (dw ⟨b,0⟩) λr=>match Ep b with|some (p,r')=>r=(p,⟨r',0⟩)|none=>r.2.e≠0:=by
 unfold dw Ep;rw [xk hb hl,au];cases ht:ln b with
 |none=>simp only [show¬((0:Int)<0) by decide,if_false,show decide ((100:Int)<0)=false by decide,au,sh,jQ b,decide_false,AI,if_true];exact .mk (jQ b)
 |some p=>
  obtain ⟨n,r⟩:=p;obtain ⟨_,hn,hr⟩:=kW hb ht;have hrl:=oO ht;simp only;rw [or_some,au];by_cases c:n<0\/100<n
  ·rw [decide_eq_true c,if_pos rfl,au,if_pos c];simp only [show decide ((3:Int)=0)=false by decide,AI,if_true,au];exact .mk (show (3:Int)≠0 by decide)
  ·rw [decide_eq_false c,if_neg (by simp),au,if_neg c];simp only [decide_true,aaT,sh,if_false,au];by_cases c0:n=0
   ·rw [if_pos c0,decide_eq_true c0,if_pos rfl];exact .mk rfl
   ·rw [if_neg c0,decide_eq_false c0,if_neg (by simp),if_pos ⟨by omega,trivial,by omega⟩];have hN:n=(n.toNat:Int):=by omega
    have h:=arL (rA:=(n,(⟨r,0⟩:aO))) hN (by omega) n.toNat [] r hr (by omega) (by simp);simp only [abK,IT,No,BY] at h;have gU:cM (Int.toNat n) (⟨0,0,([]:List UInt8)⟩:aa)=cM n.toNat zA:=rfl;rw [gU];rcases h with ⟨l,r1,h1,h2⟩|⟨h1,arr,r1,e,he,hx,h2⟩
    ·rw [h2,au,h1];obtain ⟨_,hll,_,xC,axR⟩:=GA _ hr h1;have hm:(l.map qj).length<2^40:=by rw [List.length_map];omega
     simp only;rw [xk xC (by omega),au];cases wz:ln r1 with
     |none=>simp only;rw [uF (by exact jQ r1),au];have:=aeB (w3:=(l.map qj,r1,0)) (ca:=((0:Int),(⟨[],Ko r1⟩:aO))) (cG:=(([]:List UInt8),(⟨[],Ko r1⟩:aO))) hm (l.map qj) [] rfl;simp only [IT,No,BY] at this;rw [this,au];exact .mk (jQ r1)
     |some p2=>
      obtain ⟨v,r2⟩:=p2;obtain ⟨_,_,Cl⟩:=kW xC wz;have axS:=oO wz;simp only;rcases M1 Cl (by omega) with ⟨x,r3,g1,g2⟩|⟨g1,s,t,he,g2⟩
      ·rw [g2,au,g1];have:=aeB (w3:=(l.map qj,r1,0)) (ca:=(v,(⟨r2,0⟩:aO))) (cG:=(x,(⟨r3,0⟩:aO))) hm (l.map qj) [] rfl;simp only [IT,No,BY] at this;rw [this,au];refine .mk ?_;simp only [List.map_map,mkP];rfl
      ·rw [g2,au,g1];have:=aeB (w3:=(l.map qj,r1,0)) (ca:=(v,(⟨r2,0⟩:aO))) (cG:=(s,t)) hm (l.map qj) [] rfl;simp only [IT,No,BY] at this;rw [this,au];exact .mk he
    ·rw [h2,au,h1];simp only;rw [tH (by exact he),au];simp only;rw [uF (by exact he),au];have EE:arr.length<2^40:=by omega
     have:=aeB (w3:=(arr,r1,e)) (ca:=((0:Int),(⟨r1,e⟩:aO))) (cG:=(([]:List UInt8),(⟨r1,e⟩:aO))) EE arr [] rfl;simp only [IT,No,BY] at this;rw [this,au];exact .mk he
def Ru:ah:=⟨⟨0,0⟩,0,0,false,0,[],[],⟨[]⟩⟩
def vN (s:ae)(me:Int):Prop:=cC s/\0<=me/\me<mS s
def oY (b:List Int):Option (Int×Int×Int×List UInt8×List aa):=match ln b with
 |none=>none
 |some (v,r1)=>match ln r1 with
  |none=>none
  |some (h,r2)=>match ln r2 with
   |none=>none
   |some (w,r3)=>match vM r3 6000 with
    |none=>none
    |some (x,r4)=>match Ep r4 with
     |none=>none
     |some (p,r5)=>if r5=[] then some (v,h,w,x,p) else none
def mkA (s:ae)(me:Int)(t:Int×Int×Int×List UInt8×List aa):ah:=⟨s,me,t.1,decide (t.2.1=1),t.2.2.1,t.2.2.2.1,t.2.2.2.2,⟨[]⟩⟩
def okA (s:ae)(me:Int)(t:Int×Int×Int×List UInt8×List aa):Prop:=(t.2.1=0\/t.2.1=1)/\FB (mkA s me t)
structure vO (s:ae) (me:Int) (b:List Int) (r:ah×Int):Prop where
 bad: ¬vN s me->r=(Ru,1)
 form:vN s me->oY b=none->r=(Ru,3)
 no:vN s me-> ∀t,oY b=some t-> ¬okA s me t->r=(Ru,3)
 yes:vN s me-> ∀t,oY b=some t->okA s me t->r=(mkA s me t,0)
theorem vO.Vo {s:ae}{me:Int}{b:List Int}(c:vN s me)(ht:oY b=none):vO s me b (Ru,3):=⟨λh=>absurd c h,λ_ _=>rfl,λ_ t h=>by (rw [ht] at h;cases h),λ_ t h=>by (rw [ht] at h;cases h)⟩
theorem vO.abO {s:ae}{me:Int}{b:List Int}{t:Int×Int×Int×List UInt8×List aa}(c:vN s me)(ht:oY b=some t){r:ah×Int}(h1:okA s me t->r=(mkA s me t,0))(h2: ¬okA s me t->r=(Ru,3)):vO s me b r:=⟨λh=>absurd c h,λ_ h=>by (rw [ht] at h;cases h),λ_ t' h hn=>by (rw [ht] at h;injection h with h;subst h;exact h2 hn),λ_ t' h hn=>by (rw [ht] at h;injection h with h;subst h;exact h1 hn)⟩
theorem Xw {b:List Int}{p:List aa}{r:List Int}(hb:tD b)(h:Ep b=some (p,r)):p.length<=100:=(TU hb h).2.1.len
theorem TZ (s:ae)(me:Int){b:List Int}(hb:tD b)(hl:b.length<2^40):aL (lq s me b) (vO s me b):=by
 unfold lq;rw [MW,au];by_cases c:vN s me;rotate_left
 ·have e0:aby s me=(⟨⟨0,0⟩,0,0,false,0,[],[],⟨[]⟩⟩,1):=if_neg c;rw [e0];simp only [show decide ((1:Int)=0)=false by decide,AI,if_true];exact .mk ⟨λ_=>rfl,λh=>absurd h c,λh=>absurd h c,λh=>absurd h c⟩
 have e0:aby s me=(⟨s,me,0,false,0,[],[],⟨[]⟩⟩,0):=if_pos c;rw [e0];simp only [decide_true,aaT,sh,if_false];have aeC: ∀t:aO,t.e≠0->oY b=none-> ∀(X:List aa×aO->Option Bool) (Y:List aa×aO->Option (ah×Int)),aL (bd (dw t) λlW=>bd (if !decide (lW.2.e=0) then some true else X lW:Option Bool) λw=>if w then some ((⟨(⟨0,0⟩:ae),0,0,false,0,([]:List UInt8),([]:List aa),(⟨([]:List aa)⟩:aA)⟩:ah),(3:Int)) else Y lW) (vO s me b):=by intro t ht hn X Y;rw [Rt ht,au];simp only [ht,decide_false,AI,if_true,au];exact .mk (vO.Vo c hn)
 rw [xk hb hl,au];cases KI:ln b with
 |none=>
  have hn:oY b=none:=by unfold oY;rw [KI]
  simp only;rw [tH (jQ b),au];simp only;rw [tH (jQ b),au];simp only;rw [uF (jQ b),au];exact aeC _ (jQ b) hn _ _
 |some p1=>
  obtain ⟨v,r1⟩:=p1;obtain ⟨_,_,xC⟩:=kW hb KI;have l1:=oO KI;simp only;rw [xk xC (by omega),au];cases wz:ln r1 with
  |none=>
   have hn:oY b=none:=by unfold oY;rw [KI];simp only;rw [wz]
   simp only;rw [tH (jQ r1),au];simp only;rw [uF (jQ r1),au];exact aeC _ (jQ r1) hn _ _
  |some p2=>
   obtain ⟨h,r2⟩:=p2;obtain ⟨_,_,Cl⟩:=kW xC wz;have l2:=oO wz;simp only;rw [xk Cl (by omega),au];cases XX:ln r2 with
   |none=>
    have hn:oY b=none:=by unfold oY;rw [KI];simp only;rw [wz];simp only;rw [XX]
    simp only;rw [uF (jQ r2),au];exact aeC _ (jQ r2) hn _ _
   |some p3=>
    obtain ⟨w,r3⟩:=p3;obtain ⟨_,_,hr3⟩:=kW Cl XX;have l3:=oO XX;simp only;rcases M1 hr3 (by omega) with ⟨x,r4,g1,g2⟩|⟨g1,s',t,he,g2⟩;rotate_left
    ·have hn:oY b=none:=by unfold oY;rw [KI];simp only;rw [wz];simp only;rw [XX];simp only;rw [g1]
     rw [g2,au];exact aeC _ he hn _ _
    obtain ⟨_,_,hr4⟩:=Km hr3 g1;have l4:=TS g1;rw [g2,au];simp only;obtain ⟨⟨p,t⟩,e5,h5⟩:=TY hr4 (by omega);rw [e5,au];cases ht5:Ep r4 with
    |none=>
     have hn:oY b=none:=by unfold oY;rw [KI];simp only;rw [wz];simp only;rw [XX];simp only;rw [g1];simp only;rw [ht5]
     rw [ht5] at h5;simp only at h5;simp only [h5,decide_false,AI,if_true,au];exact .mk (vO.Vo c hn)
    |some p5=>
     obtain ⟨p',r5⟩:=p5;rw [ht5] at h5;simp only at h5;injection h5 with h5 h6;subst h5;subst h6;have Np:=Xw hr4 ht5;have hA:oY b=if r5=[] then some (v,h,w,x,p) else none:=by unfold oY;rw [KI];simp only;rw [wz];simp only;rw [XX];simp only;rw [g1];simp only;rw [ht5]
     simp only [decide_true,aaT,sh,if_false];have hf:iJ (decide (h=1))=some (if h=1 then 1 else 0):=by unfold iJ;by_cases c1:h=1<;>simp [c1]
     rw [hf,au];by_cases c1:h=0\/h=1;rotate_left
     ·rw [if_pos (by rw [aa1,decide_eq_false_iff_not];intro hh;split at hh<;>omega),au,if_pos rfl];by_cases c2:r5=[]
      ·rw [if_pos c2] at hA;exact .mk (vO.abO c hA (λh=>absurd h.1 c1) (λ_=>rfl))
      ·rw [if_neg c2] at hA;exact .mk (vO.Vo c hA)
     rw [if_neg (by rw [aa1,decide_eq_false_iff_not];intro hh;apply hh;split<;>omega)];by_cases c2:r5=[];rotate_left
     ·rw [if_neg c2] at hA;have:0<r5.length:=List.length_pos_iff.2 c2;rw [if_pos (by omega),au,if_pos rfl];exact .mk (vO.Vo c hA)
     rw [if_pos c2] at hA;rw [if_neg (by rw [c2];simp)];obtain ⟨ok,e6,h6⟩:=abA (mkA s me (v,h,w,x,p)) (by simp only [mkA];omega);have e7:dY (⟨s,me,v,decide (h=1),w,x,p,⟨[]⟩⟩:ah)=some ok:=e6;rw [e7,au,au];have Pc:ok=true↔okA s me (v,h,w,x,p):=by rw [h6];exact ⟨λh=>⟨c1,h⟩,λh=>h.2⟩
     cases ok with
     |true=>simp only [aaT,sh,if_false];exact .mk (vO.abO c hA (λ_=>rfl) (λhk=>absurd (Pc.1 rfl) hk))
     |false=>simp only [AI,if_true];exact .mk (vO.abO c hA (λhk=>by have:=Pc.2 hk;cases this) (λ_=>rfl))
end Dn.S
