import Derived.Test.YtmdlghpieagfhaaGreatDnPAcc3
/- Acceptors that are loaded. Conditions: none. -/
set_option linter.unusedVariables false
set_option linter.unusedSimpArgs false
open List renaming replicate→cV,length_replicate→AT,nil_append→IT,length_nil→No,getElem_append_right→OF,set_append_right→aaK,append_assoc→aaP,map_nil→abz
open Bool renaming false_eq_true→sh,not_false→AI,not_true→aaJ,not_eq_true'→aaU
open Int renaming natCast_zero→BY,toNat_natCast→aau
open Nat renaming le_refl→abB
open Go Dn
namespace Dn.S
theorem xG {b:List Int}(hb:tR b)(hl:b.length<2^40):b5 ⟨b,0⟩=some (match lE b with|some (n,r)=>(n,⟨r,0⟩)|none=>(0,⟨[],KK b⟩)):=by
 unfold b5;simp only [if_true];rw [L4 hb hl,au,au];cases lE b with
 |none=>rfl
 |some p=>rfl
theorem tX {t:aO}(he:t.e≠0):b5 t=some (0,t):=by unfold b5;rw [if_neg he,au]
theorem Nu {b:List Int}(hb:tR b)(hl:b.length<2^40):(∃s r,vZ b 6000=some (s,r)/\dw ⟨b,0⟩=some (s,⟨r,0⟩))\/(vZ b 6000=none/\ ∃s t,t.e≠0/\dw ⟨b,0⟩=some (s,t)):=by
 unfold dw;simp only [if_true];have e:kI b 6000=some (tkT b 6000):=KM (most:=6000) hb hl (by decide);rw [e,au,au];rcases X2 b 6000 with ⟨s,r,h1,h2⟩|⟨h1,e,he,h2⟩
 ·exact .inl ⟨s,r,h1,by rw [h2]⟩
 ·exact .inr ⟨h1,[],⟨[],e⟩,he,by rw [h2]⟩
theorem uQ {t:aO}(he:t.e≠0):dw t=some ([],t):=by unfold dw;rw [if_neg he,au]
theorem RV {t:aO}(he:t.e≠0):dE t=some ([],t):=by unfold dE;rw [tX he];simp only [au,show¬((0:Int)<0) by decide,if_false,show decide ((100:Int)<0)=false by decide,sh,he,decide_false,AI,if_true]
def zA:aa:=⟨0,0,[]⟩
def qz (y:Int):aa:=⟨y,0,[]⟩
theorem acy {rA:Int×aO}{N:Nat}(hN:rA.1=(N:Int))(anQ:N<=100){b:List Int}{e:Int}(he:e≠0): ∀(d k:Nat) (arr:List aa),k+d=N->arr.length=N-> ∃Ad,Ad.length=N/\Loop (ca rA) (arr,(k:Int),b,e)=some (Ad,b,e):=by
 intro d;induction d with
 |zero=>intro k arr hk ha;refine ⟨arr,ha,Bc ?_⟩;unfold ca;simp only;rw [AT,hN,if_neg (by omega)]
 |succ d ih=>intro k arr hk ha;obtain ⟨Ad,hx,h⟩:=ih (k+1) (arr.set k ⟨0,(arr[k]'(by omega)).View,(arr[k]'(by omega)).Value⟩) (by omega) (by rw [List.length_set];exact ha);refine ⟨Ad,hx,rb ?_ h⟩;unfold ca;simp only;rw [AT,hN,if_pos (by omega),tX he,au,bB (by omega),wrap64 (by omega) (by omega),aau];rfl
theorem asu {rA:Int×aO}{N:Nat}(hN:rA.1=(N:Int))(anQ:N<=100): ∀(d:Nat) (pre:List Int) (b:List Int),tR b->b.length<2^40->pre.length+d=N-> (∃l r,uO d b=some (l,r)/\Loop (ca rA) (pre.map qz++cV d zA,(pre.length:Int),b,0)=some ((pre++l).map qz,r,0))\/ (uO d b=none/\ ∃arr r e,e≠0/\arr.length=N/\Loop (ca rA) (pre.map qz++cV d zA,(pre.length:Int),b,0)=some (arr,r,e)):=by
 intro d;induction d with
 |zero=>intro pre b hb hl hk;refine .inl ⟨[],b,rfl,Bc ?_⟩;unfold ca;simp only;rw [AT,hN,if_neg (by omega)];simp
 |succ d ih=>
  intro pre b hb hl hk;have hlen:(pre.map qz++cV (d+1) zA).length=N:=by simp;omega
  have ug:(pre.map qz++cV (d+1) zA)[pre.length]'(by omega)=zA:=by rw [OF (by simp)];simp
  have N5: ∀v,(pre.map qz++cV (d+1) zA).set pre.length v=pre.map qz++v::cV d zA:=by intro v;rw [aaK _ _ (by simp)];simp [List.replicate_succ]
  have Gk: ∀n r e,b5 ⟨b,0⟩=some (n,⟨r,e⟩)->ca rA (pre.map qz++cV (d+1) zA,(pre.length:Int),b,0)=some (.inl ((pre++[n]).map qz++cV d zA,((pre.length+1:Nat):Int),r,e)):=by intro n r e ht;unfold ca;simp only;rw [AT,hN,if_pos (by omega),ht,au,bB (by omega),ug,wrap64 (by omega) (by omega),aau,N5,List.map_append,aaP];rfl
  have nV:=xG hb hl;simp only [uO];cases ht:lE b with
  |none=>rw [ht] at nV;obtain ⟨Ad,hx,h⟩:=acy hN anQ (b:=[]) (jX b) d (pre.length+1) ((pre++[0]).map qz++cV d zA) (by omega) (by simp;omega);exact .inr ⟨rfl,Ad,[],KK b,jX b,hx,rb (Gk _ _ _ nV) h⟩
  |some p=>
   obtain ⟨n,r⟩:=p;rw [ht] at nV;obtain ⟨_,_,hr⟩:=lp hb ht;have hrl:=oY ht;simp only;have e2:((pre.length+1:Nat):Int)=((pre++[n]).length:Int):=by simp
   rcases ih (pre++[n]) r hr (by omega) (by simp;omega) with ⟨l,r',h1,h2⟩|⟨h1,arr,r',e,he,hx,h2⟩
   ·refine .inl ⟨n::l,r',by rw [h1],rb (Gk _ _ _ nV) ?_⟩;rw [e2,h2,aaP];rfl
   ·refine .inr ⟨by rw [h1],arr,r',e,he,hx,rb (Gk _ _ _ nV) ?_⟩;rw [e2,h2]
theorem afe {w3:List aa×List Int×Int}{cg:Int×aO}{cM:List UInt8×aO}(hl:w3.1.length<2^40): ∀(R L:List aa),(L++R).length=w3.1.length->Loop (fL w3 cg cM) (L++R,(L.length:Int))=some (L++R.map λy=>⟨y.By,cg.1,cM.1⟩):=by
 intro R;induction R with
 |nil=>intro L h;refine Bc ?_;unfold fL;simp only [List.append_nil,abz] at *;rw [if_neg (by omega)]
 |cons c R ih=>
  intro L h;have h2:L.length<(L++c::R).length:=by simp
  have ug: ∀(d:aa) (hh:L.length<(L++d::R).length),(L++d::R)[L.length]'hh=d:=by intro d hh;rw [OF (abB _)];simp
  have N5: ∀d v:aa,(L++d::R).set L.length v=L++v::R:=by intro d v;rw [aaK _ _ (abB _)];simp
  have hih:=ih (L++[⟨c.By,cg.1,cM.1⟩]) (by simp at *;omega);refine rb (s':=(L++[⟨c.By,cg.1,cM.1⟩]++R,((L++[⟨c.By,cg.1,cM.1⟩]:List aa).length:Int))) ?_ ?_
  ·unfold fL;simp only;rw [if_pos (by omega),bB h2,ug,aau,N5,bB (by simp),ug,N5,wrap64 (by omega) (by omega)];simp
  ·rw [hih];simp
theorem UA {b:List Int}(hb:tR b)(hl:b.length<2^40):aK (dE ⟨b,0⟩) λr=>match EO b with|some (p,r')=>r=(p,⟨r',0⟩)|none=>r.2.e≠0:=by
 unfold dE EO;rw [xG hb hl,au];cases ht:lE b with
 |none=>simp only [show¬((0:Int)<0) by decide,if_false,show decide ((100:Int)<0)=false by decide,au,sh,jX b,decide_false,AI,if_true];exact .mk (jX b)
 |some p=>
  obtain ⟨n,r⟩:=p;obtain ⟨_,hn,hr⟩:=lp hb ht;have hrl:=oY ht;simp only;rw [or_some,au];by_cases c:n<0\/100<n
  ·rw [decide_eq_true c,if_pos rfl,au,if_pos c];simp only [show decide ((3:Int)=0)=false by decide,AI,if_true,au];exact .mk (show (3:Int)≠0 by decide)
  ·rw [decide_eq_false c,if_neg (by simp),au,if_neg c];simp only [decide_true,aaJ,sh,if_false,au];by_cases c0:n=0
   ·rw [if_pos c0,decide_eq_true c0,if_pos rfl];exact .mk rfl
   ·rw [if_neg c0,decide_eq_false c0,if_neg (by simp),if_pos ⟨by omega,trivial,by omega⟩];have hN:n=(n.toNat:Int):=by omega
    have h:=asu (rA:=(n,(⟨r,0⟩:aO))) hN (by omega) n.toNat [] r hr (by omega) (by simp);simp only [abz,IT,No,BY] at h;have ic:cV (Int.toNat n) (⟨0,0,([]:List UInt8)⟩:aa)=cV n.toNat zA:=rfl;rw [ic];rcases h with ⟨l,r1,h1,h2⟩|⟨h1,arr,r1,e,he,hx,h2⟩
    ·rw [h2,au,h1];obtain ⟨_,hll,_,xS,ayP⟩:=G3 _ hr h1;have hm:(l.map qz).length<2^40:=by rw [List.length_map];omega
     simp only;rw [xG xS (by omega),au];cases wN:lE r1 with
     |none=>simp only;rw [uQ (by exact jX r1),au];have:=afe (w3:=(l.map qz,r1,0)) (cg:=((0:Int),(⟨[],KK r1⟩:aO))) (cM:=(([]:List UInt8),(⟨[],KK r1⟩:aO))) hm (l.map qz) [] rfl;simp only [IT,No,BY] at this;rw [this,au];exact .mk (jX r1)
     |some p2=>
      obtain ⟨v,r2⟩:=p2;obtain ⟨_,_,CU⟩:=lp xS wN;have ayQ:=oY wN;simp only;rcases Nu CU (by omega) with ⟨x,r3,g1,g2⟩|⟨g1,s,t,he,g2⟩
      ·rw [g2,au,g1];have:=afe (w3:=(l.map qz,r1,0)) (cg:=(v,(⟨r2,0⟩:aO))) (cM:=(x,(⟨r3,0⟩:aO))) hm (l.map qz) [] rfl;simp only [IT,No,BY] at this;rw [this,au];refine .mk ?_;simp only [List.map_map,mkP];rfl
      ·rw [g2,au,g1];have:=afe (w3:=(l.map qz,r1,0)) (cg:=(v,(⟨r2,0⟩:aO))) (cM:=(s,t)) hm (l.map qz) [] rfl;simp only [IT,No,BY] at this;rw [this,au];exact .mk he
    ·rw [h2,au,h1];simp only;rw [tX (by exact he),au];simp only;rw [uQ (by exact he),au];have E3:arr.length<2^40:=by omega
     have:=afe (w3:=(arr,r1,e)) (cg:=((0:Int),(⟨r1,e⟩:aO))) (cM:=(([]:List UInt8),(⟨r1,e⟩:aO))) E3 arr [] rfl;simp only [IT,No,BY] at this;rw [this,au];exact .mk he
def RW:af:=⟨⟨0,0⟩,0,0,false,0,[],[],⟨[]⟩⟩
def v8 (s:ae)(me:Int):Prop:=cC s/\0<=me/\me<kz s
def pj (b:List Int):Option (Int×Int×Int×List UInt8×List aa):=match lE b with
 |none=>none
 |some (v,r1)=>match lE r1 with
  |none=>none
  |some (h,r2)=>match lE r2 with
   |none=>none
   |some (w,r3)=>match vZ r3 6000 with
    |none=>none
    |some (x,r4)=>match EO r4 with
     |none=>none
     |some (p,r5)=>if r5=[] then some (v,h,w,x,p) else none
def mkA (s:ae)(me:Int)(t:Int×Int×Int×List UInt8×List aa):af:=⟨s,me,t.1,decide (t.2.1=1),t.2.2.1,t.2.2.2.1,t.2.2.2.2,⟨[]⟩⟩
def okA (s:ae)(me:Int)(t:Int×Int×Int×List UInt8×List aa):Prop:=(t.2.1=0\/t.2.1=1)/\F7 (mkA s me t)
structure wa (s:ae) (me:Int) (b:List Int) (r:af×Int):Prop where
 bad: ¬v8 s me->r=(RW,1)
 form:v8 s me->pj b=none->r=(RW,3)
 no:v8 s me-> ∀t,pj b=some t-> ¬okA s me t->r=(RW,3)
 yes:v8 s me-> ∀t,pj b=some t->okA s me t->r=(mkA s me t,0)
theorem wa.VY {s:ae}{me:Int}{b:List Int}(c:v8 s me)(ht:pj b=none):wa s me b (RW,3):=⟨λh=>absurd c h,λ_ _=>rfl,λ_ t h=>by (rw [ht] at h;cases h),λ_ t h=>by (rw [ht] at h;cases h)⟩
theorem wa.acz {s:ae}{me:Int}{b:List Int}{t:Int×Int×Int×List UInt8×List aa}(c:v8 s me)(ht:pj b=some t){r:af×Int}(h1:okA s me t->r=(mkA s me t,0))(h2: ¬okA s me t->r=(RW,3)):wa s me b r:=⟨λh=>absurd c h,λ_ h=>by (rw [ht] at h;cases h),λ_ t' h hn=>by (rw [ht] at h;injection h with h;subst h;exact h2 hn),λ_ t' h hn=>by (rw [ht] at h;injection h with h;subst h;exact h1 hn)⟩
theorem X7 {b:List Int}{p:List aa}{r:List Int}(hb:tR b)(h:EO b=some (p,r)):p.length<=100:=(Uw hb h).2.1.len
theorem UB (s:ae)(me:Int){b:List Int}(hb:tR b)(hl:b.length<2^40):aK (lL s me b) (wa s me b):=by
 unfold lL;rw [Nn,au];by_cases c:v8 s me;rotate_left
 ·have e0:ach s me=(⟨⟨0,0⟩,0,0,false,0,[],[],⟨[]⟩⟩,1):=if_neg c;rw [e0];simp only [show decide ((1:Int)=0)=false by decide,AI,if_true];exact .mk ⟨λ_=>rfl,λh=>absurd h c,λh=>absurd h c,λh=>absurd h c⟩
 have e0:ach s me=(⟨s,me,0,false,0,[],[],⟨[]⟩⟩,0):=if_pos c;rw [e0];simp only [decide_true,aaJ,sh,if_false];have aff: ∀t:aO,t.e≠0->pj b=none-> ∀(X:List aa×aO->Option Bool) (Y:List aa×aO->Option (af×Int)),aK (bd (dE t) λmc=>bd (if !decide (mc.2.e=0) then some true else X mc:Option Bool) λw=>if w then some ((⟨(⟨0,0⟩:ae),0,0,false,0,([]:List UInt8),([]:List aa),(⟨([]:List aa)⟩:aA)⟩:af),(3:Int)) else Y mc) (wa s me b):=by intro t ht hn X Y;rw [RV ht,au];simp only [ht,decide_false,AI,if_true,au];exact .mk (wa.VY c hn)
 rw [xG hb hl,au];cases La:lE b with
 |none=>
  have hn:pj b=none:=by unfold pj;rw [La]
  simp only;rw [tX (jX b),au];simp only;rw [tX (jX b),au];simp only;rw [uQ (jX b),au];exact aff _ (jX b) hn _ _
 |some p1=>
  obtain ⟨v,r1⟩:=p1;obtain ⟨_,_,xS⟩:=lp hb La;have l1:=oY La;simp only;rw [xG xS (by omega),au];cases wN:lE r1 with
  |none=>
   have hn:pj b=none:=by unfold pj;rw [La];simp only;rw [wN]
   simp only;rw [tX (jX r1),au];simp only;rw [uQ (jX r1),au];exact aff _ (jX r1) hn _ _
  |some p2=>
   obtain ⟨h,r2⟩:=p2;obtain ⟨_,_,CU⟩:=lp xS wN;have l2:=oY wN;simp only;rw [xG CU (by omega),au];cases YE:lE r2 with
   |none=>
    have hn:pj b=none:=by unfold pj;rw [La];simp only;rw [wN];simp only;rw [YE]
    simp only;rw [uQ (jX r2),au];exact aff _ (jX r2) hn _ _
   |some p3=>
    obtain ⟨w,r3⟩:=p3;obtain ⟨_,_,hr3⟩:=lp CU YE;have l3:=oY YE;simp only;rcases Nu hr3 (by omega) with ⟨x,r4,g1,g2⟩|⟨g1,s',t,he,g2⟩;rotate_left
    ·have hn:pj b=none:=by unfold pj;rw [La];simp only;rw [wN];simp only;rw [YE];simp only;rw [g1]
     rw [g2,au];exact aff _ he hn _ _
    obtain ⟨_,_,hr4⟩:=KI hr3 g1;have l4:=Uu g1;rw [g2,au];simp only;obtain ⟨⟨p,t⟩,e5,h5⟩:=UA hr4 (by omega);rw [e5,au];cases ht5:EO r4 with
    |none=>
     have hn:pj b=none:=by unfold pj;rw [La];simp only;rw [wN];simp only;rw [YE];simp only;rw [g1];simp only;rw [ht5]
     rw [ht5] at h5;simp only at h5;simp only [h5,decide_false,AI,if_true,au];exact .mk (wa.VY c hn)
    |some p5=>
     obtain ⟨p',r5⟩:=p5;rw [ht5] at h5;simp only at h5;injection h5 with h5 h6;subst h5;subst h6;have Lj:=X7 hr4 ht5;have hA:pj b=if r5=[] then some (v,h,w,x,p) else none:=by unfold pj;rw [La];simp only;rw [wN];simp only;rw [YE];simp only;rw [g1];simp only;rw [ht5]
     simp only [decide_true,aaJ,sh,if_false];have hf:iS (decide (h=1))=some (if h=1 then 1 else 0):=by unfold iS;by_cases c1:h=1<;>simp [c1]
     rw [hf,au];by_cases c1:h=0\/h=1;rotate_left
     ·rw [if_pos (by rw [aaU,decide_eq_false_iff_not];intro hh;split at hh<;>omega),au,if_pos rfl];by_cases c2:r5=[]
      ·rw [if_pos c2] at hA;exact .mk (wa.acz c hA (λh=>absurd h.1 c1) (λ_=>rfl))
      ·rw [if_neg c2] at hA;exact .mk (wa.VY c hA)
     rw [if_neg (by rw [aaU,decide_eq_false_iff_not];intro hh;apply hh;split<;>omega)];by_cases c2:r5=[];rotate_left
     ·rw [if_neg c2] at hA;have:0<r5.length:=List.length_pos_iff.2 c2;rw [if_pos (by omega),au,if_pos rfl];exact .mk (wa.VY c hA)
     rw [if_pos c2] at hA;rw [if_neg (by rw [c2];simp)];obtain ⟨ok,e6,h6⟩:=acj (mkA s me (v,h,w,x,p)) (by simp only [mkA];omega);have e7:ez (⟨s,me,v,decide (h=1),w,x,p,⟨[]⟩⟩:af)=some ok:=e6;rw [e7,au,au];have Qp:ok=true↔okA s me (v,h,w,x,p):=by rw [h6];exact ⟨λh=>⟨c1,h⟩,λh=>h.2⟩
     cases ok with
     |true=>simp only [aaJ,sh,if_false];exact .mk (wa.acz c hA (λ_=>rfl) (λhk=>absurd (Qp.1 rfl) hk))
     |false=>simp only [AI,if_true];exact .mk (wa.acz c hA (λhk=>by have:=Qp.2 hk;cases this) (λ_=>rfl))
end Dn.S
