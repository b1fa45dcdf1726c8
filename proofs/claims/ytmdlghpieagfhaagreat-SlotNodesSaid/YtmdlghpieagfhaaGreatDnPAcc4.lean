import Derived.Test.YtmdlghpieagfhaaGreatDnPAcc3
/-
  Acceptors that are loaded. Conditions: none.
-/
set_option linter.unusedVariables false
set_option linter.unusedSimpArgs false
open Bool renaming false_eq_true→fj,not_false→AI,not_true→AT,not_eq_true'→aaI
open List renaming replicate→sh,nil_append→IN,length_nil→IS,length_replicate→IT,getElem_append_right→No,append_assoc→aav,set_append_right→aay,length_singleton→aaH,map_append→aaJ,append_nil→aaK,length_map→aaL,map_nil→aaM
open Int renaming natCast_zero→BY,toNat_natCast→OF
open Nat renaming le_refl→aaN
open Go Dn
namespace Dn.S
theorem yN {b:List Int}(hb:rl b)(hl:b.length<2^40):cI ⟨b,0⟩=some (match gf b with|some (n,r)=>(n,⟨r,0⟩)|none=>(0,⟨[],GK b⟩)):=by
 unfold cI;simp only [if_true];rw [Oj hb hl,ar,ar];cases gf b with
 |none=>rfl
 |some p=>rfl
theorem uH {t:aZ}(he:t.e≠0):cI t=some (0,t):=by unfold cI;rw [if_neg he,ar]
theorem P5 {b:List Int}(hb:rl b)(hl:b.length<2^40):(∃s r,vG b 6000=some (s,r)/\dA ⟨b,0⟩=some (s,⟨r,0⟩))\/(vG b 6000=none/\ ∃s t,t.e≠0/\dA ⟨b,0⟩=some (s,t)):=by
 unfold dA;simp only [if_true];have e:ku b 6000=some (tkT b 6000):=ML (most:=6000) hb hl (by decide);rw [e,ar,ar];rcases HP b 6000 with ⟨s,r,h1,h2⟩|⟨h1,e,he,h2⟩
 ·exact .inl ⟨s,r,h1,by rw [h2]⟩
 ·exact .inr ⟨h1,[],⟨[],e⟩,he,by rw [h2]⟩
theorem vI {t:aZ}(he:t.e≠0):dA t=some ([],t):=by unfold dA;rw [if_neg he,ar]
theorem U5 {t:aZ}(he:t.e≠0):dP t=some ([],t):=by unfold dP;rw [uH he];simp only [ar,show¬((0:Int)<0) by decide,if_false,show decide ((100:Int)<0)=false by decide,fj,he,decide_false,AI,if_true]
def zA:aa:=⟨0,0,[]⟩
def nA (y:Int):aa:=⟨y,0,[]⟩
theorem afp {rA:Int×aZ}{N:Nat}(hN:rA.1=(N:Int))(aml:N<=100){b:List Int}{e:Int}(he:e≠0): ∀(d k:Nat) (arr:List aa),k+d=N->arr.length=N-> ∃AV,AV.length=N/\Loop (cK rA) (arr,(k:Int),b,e)=some (AV,b,e):=by
 intro d;induction d with
 |zero=>intro k arr hk ha;refine ⟨arr,ha,nk ?_⟩;unfold cK;simp only;rw [IT,hN,if_neg (by omega)]
 |succ d ih=>intro k arr hk ha;obtain ⟨AV,hx,h⟩:=ih (k+1) (arr.set k ⟨0,(arr[k]'(by omega)).View,(arr[k]'(by omega)).Value⟩) (by omega) (by rw [List.length_set];exact ha);refine ⟨AV,hx,jq ?_ h⟩;unfold cK;simp only;rw [IT,hN,if_pos (by omega),uH he,ar,bP (by omega),wrap64 (by omega) (by omega),OF];rfl
theorem ayV {rA:Int×aZ}{N:Nat}(hN:rA.1=(N:Int))(aml:N<=100): ∀(d:Nat) (pre:List Int) (b:List Int),rl b->b.length<2^40->pre.length+d=N-> (∃l r,ja d b=some (l,r)/\Loop (cK rA) (pre.map nA++sh d zA,(pre.length:Int),b,0)=some ((pre++l).map nA,r,0))\/ (ja d b=none/\ ∃arr r e,e≠0/\arr.length=N/\Loop (cK rA) (pre.map nA++sh d zA,(pre.length:Int),b,0)=some (arr,r,e)):=by
 intro d;induction d with
 |zero=>intro pre b hb hl hk;refine .inl ⟨[],b,rfl,nk ?_⟩;unfold cK;simp only;rw [IT,hN,if_neg (by omega)];simp
 |succ d ih=>
  intro pre b hb hl hk;have hlen:(pre.map nA++sh (d+1) zA).length=N:=by simp;omega
  have uN:(pre.map nA++sh (d+1) zA)[pre.length]'(by omega)=zA:=by rw [No (by simp)];simp
  have VS: ∀v,(pre.map nA++sh (d+1) zA).set pre.length v=pre.map nA++v::sh d zA:=by intro v;rw [aay _ _ (by simp)];simp [List.replicate_succ]
  have tw: ∀n r e,cI ⟨b,0⟩=some (n,⟨r,e⟩)->cK rA (pre.map nA++sh (d+1) zA,(pre.length:Int),b,0)=some (.inl ((pre++[n]).map nA++sh d zA,((pre.length+1:Nat):Int),r,e)):=by intro n r e ht;unfold cK;simp only;rw [IT,hN,if_pos (by omega),ht,ar,bP (by omega),uN,wrap64 (by omega) (by omega),OF,VS,aaJ,aav];rfl
  have qe:=yN hb hl;simp only [ja];cases ht:gf b with
  |none=>rw [ht] at qe;obtain ⟨AV,hx,h⟩:=afp hN aml (b:=[]) (ir b) d (pre.length+1) ((pre++[0]).map nA++sh d zA) (by omega) (by simp;omega);exact .inr ⟨rfl,AV,[],GK b,ir b,hx,jq (tw _ _ _ qe) h⟩
  |some p=>
   obtain ⟨n,r⟩:=p;rw [ht] at qe;obtain ⟨_,_,hr⟩:=iB hb ht;have hrl:=jY ht;simp only;have e2:((pre.length+1:Nat):Int)=((pre++[n]).length:Int):=by simp
   rcases ih (pre++[n]) r hr (by omega) (by simp;omega) with ⟨l,r',h1,h2⟩|⟨h1,arr,r',e,he,hx,h2⟩
   ·refine .inl ⟨n::l,r',by rw [h1],jq (tw _ _ _ qe) ?_⟩;rw [e2,h2,aav];rfl
   ·refine .inr ⟨by rw [h1],arr,r',e,he,hx,jq (tw _ _ _ qe) ?_⟩;rw [e2,h2]
theorem ahT {w3:List aa×List Int×Int}{bH:Int×aZ}{cr:List UInt8×aZ}(hl:w3.1.length<2^40): ∀(R L:List aa),(L++R).length=w3.1.length->Loop (fR w3 bH cr) (L++R,(L.length:Int))=some (L++R.map λy=>⟨y.By,bH.1,cr.1⟩):=by
 intro R;induction R with
 |nil=>intro L h;refine nk ?_;unfold fR;simp only [aaK,aaM] at *;rw [if_neg (by omega)]
 |cons c R ih=>
  intro L h;have h2:L.length<(L++c::R).length:=by simp
  have uN: ∀(d:aa) (hh:L.length<(L++d::R).length),(L++d::R)[L.length]'hh=d:=by intro d hh;rw [No (aaN _)];simp
  have VS: ∀d v:aa,(L++d::R).set L.length v=L++v::R:=by intro d v;rw [aay _ _ (aaN _)];simp
  have hih:=ih (L++[⟨c.By,bH.1,cr.1⟩]) (by simp at *;omega);refine jq (s':=(L++[⟨c.By,bH.1,cr.1⟩]++R,((L++[⟨c.By,bH.1,cr.1⟩]:List aa).length:Int))) ?_ ?_
  ·unfold fR;simp only;rw [if_pos (by omega),bP h2,uN,OF,VS,bP (by simp),uN,VS,wrap64 (by omega) (by omega)];simp
  ·rw [hih];simp
theorem W7 {b:List Int}(hb:rl b)(hl:b.length<2^40):bD (dP ⟨b,0⟩) λr=>match yM b with|some (p,r')=>r=(p,⟨r',0⟩)|none=>r.2.e≠0:=by
 unfold dP yM;rw [yN hb hl,ar];cases ht:gf b with
 |none=>simp only [show¬((0:Int)<0) by decide,if_false,show decide ((100:Int)<0)=false by decide,ar,fj,ir b,decide_false,AI,if_true];exact .mk (ir b)
 |some p=>
  obtain ⟨n,r⟩:=p;obtain ⟨_,hn,hr⟩:=iB hb ht;have hrl:=jY ht;simp only;rw [or_some,ar];by_cases c:n<0\/100<n
  ·rw [decide_eq_true c,if_pos rfl,ar,if_pos c];simp only [show decide ((3:Int)=0)=false by decide,AI,if_true,ar];exact .mk (show (3:Int)≠0 by decide)
  ·rw [decide_eq_false c,if_neg (by simp),ar,if_neg c];simp only [decide_true,AT,fj,if_false,ar];by_cases c0:n=0
   ·rw [if_pos c0,decide_eq_true c0,if_pos rfl];exact .mk rfl
   ·rw [if_neg c0,decide_eq_false c0,if_neg (by simp),if_pos ⟨by omega,trivial,by omega⟩];have hN:n=(n.toNat:Int):=by omega
    have h:=ayV (rA:=(n,(⟨r,0⟩:aZ))) hN (by omega) n.toNat [] r hr (by omega) (by simp);simp only [aaM,IN,IS,BY] at h;have iw:sh (Int.toNat n) (⟨0,0,([]:List UInt8)⟩:aa)=sh n.toNat zA:=rfl;rw [iw];rcases h with ⟨l,r1,h1,h2⟩|⟨h1,arr,r1,e,he,hx,h2⟩
    ·rw [h2,ar,h1];obtain ⟨_,hll,_,AW,ayX⟩:=xb _ hr h1;have hm:(l.map nA).length<2^40:=by rw [aaL];omega
     simp only;rw [yN AW (by omega),ar];cases uP:gf r1 with
     |none=>simp only;rw [vI (by exact ir r1),ar];have:=ahT (w3:=(l.map nA,r1,0)) (bH:=((0:Int),(⟨[],GK r1⟩:aZ))) (cr:=(([]:List UInt8),(⟨[],GK r1⟩:aZ))) hm (l.map nA) [] rfl;simp only [IN,IS,BY] at this;rw [this,ar];exact .mk (ir r1)
     |some p2=>
      obtain ⟨v,r2⟩:=p2;obtain ⟨_,_,Ju⟩:=iB AW uP;have ayY:=jY uP;simp only;rcases P5 Ju (by omega) with ⟨x,r3,g1,g2⟩|⟨g1,s,t,he,g2⟩
      ·rw [g2,ar,g1];have:=ahT (w3:=(l.map nA,r1,0)) (bH:=(v,(⟨r2,0⟩:aZ))) (cr:=(x,(⟨r3,0⟩:aZ))) hm (l.map nA) [] rfl;simp only [IN,IS,BY] at this;rw [this,ar];refine .mk ?_;simp only [List.map_map,U1];rfl
      ·rw [g2,ar,g1];have:=ahT (w3:=(l.map nA,r1,0)) (bH:=(v,(⟨r2,0⟩:aZ))) (cr:=(s,t)) hm (l.map nA) [] rfl;simp only [IN,IS,BY] at this;rw [this,ar];exact .mk he
    ·rw [h2,ar,h1];simp only;rw [uH (by exact he),ar];simp only;rw [vI (by exact he),ar];have EX:arr.length<2^40:=by omega
     have:=ahT (w3:=(arr,r1,e)) (bH:=((0:Int),(⟨r1,e⟩:aZ))) (cr:=(([]:List UInt8),(⟨r1,e⟩:aZ))) EX arr [] rfl;simp only [IN,IS,BY] at this;rw [this,ar];exact .mk he
theorem aau {N:Nat}(aml:N<=1000): ∀(d:Nat) (out:List Int) (b:List Int),rl b->b.length<2^40->out.length+d=N-> Loop (pA (N:Int)) (b,out,(out.length:Int))=some (match ja d b with|some (l,r)=> .inl (r,out++l)|none=> .inr ([],[],false)):=by
 intro d;induction d with
 |zero=>intro out b hb hl hk;refine nk ?_;unfold pA;simp only [ja];rw [if_neg (by omega),aaK]
 |succ d ih=>
  intro out b hb hl hk;simp only [ja];cases ht:gf b with
  |none=>refine nk ?_;unfold pA;simp only;rw [if_pos (by omega),DE hb hl,ar,ht];simp only [ir b,decide_false,AI,if_true]
  |some p=>
   obtain ⟨n,r⟩:=p;obtain ⟨_,_,hr⟩:=iB hb ht;have hrl:=jY ht;have hih:=ih (out++[n]) r hr (by omega) (by simp;omega);refine jq (s':=(r,out++[n],((out++[n]).length:Int))) ?_ ?_
   ·unfold pA;simp only;rw [if_pos (by omega),DE hb hl,ar,ht];simp only [decide_true,AT,fj,if_false];rw [if_pos (by rw [aaH];omega),wrap64 (by omega) (by omega)];simp
   ·rw [hih];simp only;cases ja d r with
    |none=>rfl
    |some q=>simp [aav]
theorem xc {b:List Int}(hb:rl b)(hl:b.length<2^40){N:Nat}(h:N<=1000):pB b (N:Int)=some (match ja N b with|some (l,r)=>(l,r,true)|none=>([],[],false)):=by
 unfold pB;have:=aau h N [] b hb hl (by simp);simp only [IS,BY,IN] at this;rw [this,ar];cases ja N b with
 |none=>rfl
 |some q=>rfl
theorem MQ (b:List Int):ja 1 b=match gf b with|some (n,r)=>some ([n],r)|none=>none:=by
 simp only [ja];cases gf b with
 |none=>rfl
 |some p=>rfl
theorem W8 {l m:List Int}{v:Int}{x:List UInt8}{z:List Int}{y:Bool}{e:Int}{r1 r2:List Int}(h:l.length<=1000):Loop (qA (l,r1,y) ([v],r2,y) (x,z,e)) ([],0)=some (U1 l v x):=by
 refine bD.eq (bD.count (λk=>(U1 (l.take k) v x,(k:Int))) l.length (λ_=>True) (by simp [U1]) trivial (λk hk _=> ?_) (λ_=> ?_))
 ·unfold qA;simp only;have hlen:(U1 (l.take k) v x).length<=1000:=by unfold U1;rw [aaL,List.length_take];omega
  rw [if_pos (by omega),bP hk,iK (by simp),if_pos (by rw [aaH];omega),wrap64 (by omega) (by omega)];refine .mk ⟨?_,trivial⟩;unfold U1;rw [List.take_add_one,List.getElem?_eq_getElem hk,aaJ];rfl
 ·unfold qA;simp only;rw [if_neg (by omega),List.take_length];exact .mk rfl
theorem RZ {b:List Int}(hb:rl b)(hl:b.length<2^40):u9 b=some (match yM b with|some (p,r)=>(p,r,true)|none=>([],[],false)):=by
 unfold u9 yM;have h1:=xc hb hl (N:=1) (by decide);rw [MQ,show ((1:Nat):Int)=1 from rfl] at h1;rw [h1,ar];cases ht:gf b with
 |none=>simp
 |some p=>
  obtain ⟨n,r⟩:=p;obtain ⟨_,hn,hr⟩:=iB hb ht;have hrl:=jY ht;simp only [AT,fj,if_false,iK (show 0<([n]:List Int).length by simp),List.getElem_cons_zero];rw [or_some,ar];by_cases c:n<0\/100<n
  ·rw [decide_eq_true c,if_pos rfl,if_pos c]
  ·rw [decide_eq_false c,if_neg (by simp),if_neg c];by_cases c0:n=0
   ·rw [if_pos c0,if_pos c0]
   ·rw [if_neg c0,if_neg c0];have h2:=xc hr (by omega) (N:=n.toNat) (by omega);rw [show (n.toNat:Int)=n by omega] at h2;rw [h2,ar];cases H9:ja n.toNat r with
    |none=>simp
    |some q=>
     obtain ⟨l,r1⟩:=q;obtain ⟨_,hll,_,AW,ayX⟩:=xb _ hr H9;have h3:=xc AW (by omega) (N:=1) (by decide);rw [MQ,show ((1:Nat):Int)=1 from rfl] at h3;simp only [AT,fj,if_false];rw [h3,ar];cases uP:gf r1 with
     |none=>simp
     |some q2=>
      obtain ⟨v,r2⟩:=q2;obtain ⟨_,_,Ju⟩:=iB AW uP;have ayY:=jY uP;simp only [AT,fj,if_false];have e4:jH r2 6000=some (tkT r2 6000):=BN (most:=6000) Ju (by omega) (by decide);rw [e4,ar];rcases HP r2 6000 with ⟨s,r3,g1,g2⟩|⟨g1,e,he,g2⟩
      ·rw [g1,g2];simp only [decide_true,AT,fj,if_false];rw [W8 (m:=l) (by omega),ar]
      ·rw [g1,g2];simp only [he,decide_false,AI,if_true]
def xd:aj:=⟨⟨0,0⟩,0,0,false,0,[],[],⟨[]⟩⟩
def q8 (s:ak)(me:Int):Prop:=cR s/\0<=me/\me<tF s
def kI (b:List Int):Option (Int×Int×Int×List UInt8×List aa):=match gf b with
 |none=>none
 |some (v,r1)=>match gf r1 with
  |none=>none
  |some (h,r2)=>match gf r2 with
   |none=>none
   |some (w,r3)=>match vG r3 6000 with
    |none=>none
    |some (x,r4)=>match yM r4 with
     |none=>none
     |some (p,r5)=>if r5=[] then some (v,h,w,x,p) else none
def mkA (s:ak)(me:Int)(t:Int×Int×Int×List UInt8×List aa):aj:=⟨s,me,t.1,decide (t.2.1=1),t.2.2.1,t.2.2.2.1,t.2.2.2.2,⟨[]⟩⟩
def okA (s:ak)(me:Int)(t:Int×Int×Int×List UInt8×List aa):Prop:=(t.2.1=0\/t.2.1=1)/\Es (mkA s me t)
structure mw (s:ak) (me:Int) (b:List Int) (r:aj×Int):Prop where
 bad: ¬q8 s me->r=(xd,1)
 form:q8 s me->kI b=none->r=(xd,3)
 no:q8 s me-> ∀t,kI b=some t-> ¬okA s me t->r=(xd,3)
 yes:q8 s me-> ∀t,kI b=some t->okA s me t->r=(mkA s me t,0)
theorem mw.uniq {s:ak}{me:Int}{b:List Int} {r r':aj×Int}(h:mw s me b r) (h':mw s me b r'):r=r':=by
 by_cases c:q8 s me
 ·cases ht:kI b with
  |none=>rw [h.form c ht,h'.form c ht]
  |some t=>
   by_cases c2:okA s me t
   ·rw [h.yes c t ht c2,h'.yes c t ht c2]
   ·rw [h.no c t ht c2,h'.no c t ht c2]
 ·rw [h.bad c,h'.bad c]
theorem mw.P6 {s:ak}{me:Int}{b:List Int}(c:q8 s me)(ht:kI b=none):mw s me b (xd,3):=⟨λh=>absurd c h,λ_ _=>rfl,λ_ t h=>by (rw [ht] at h;cases h),λ_ t h=>by (rw [ht] at h;cases h)⟩
theorem mw.P7 {s:ak}{me:Int}{b:List Int}{t:Int×Int×Int×List UInt8×List aa}(c:q8 s me)(ht:kI b=some t){r:aj×Int}(h1:okA s me t->r=(mkA s me t,0))(h2: ¬okA s me t->r=(xd,3)):mw s me b r:=⟨λh=>absurd c h,λ_ h=>by (rw [ht] at h;cases h),λ_ t' h hn=>by (rw [ht] at h;injection h with h;subst h;exact h2 hn),λ_ t' h hn=>by (rw [ht] at h;injection h with h;subst h;exact h1 hn)⟩
theorem P8 {b:List Int}{p:List aa}{r:List Int}(hb:rl b)(h:yM b=some (p,r)):p.length<=100:=(W1 hb h).2.1.len
theorem W9 (s:ak)(me:Int){b:List Int}(hb:rl b)(hl:b.length<2^40):bD (lH s me b) (mw s me b):=by
 unfold lH;rw [HM,ar];by_cases c:q8 s me;rotate_left
 ·have e0:GG s me=(⟨⟨0,0⟩,0,0,false,0,[],[],⟨[]⟩⟩,1):=if_neg c;rw [e0];simp only [show decide ((1:Int)=0)=false by decide,AI,if_true];exact .mk ⟨λ_=>rfl,λh=>absurd h c,λh=>absurd h c,λh=>absurd h c⟩
 have e0:GG s me=(⟨s,me,0,false,0,[],[],⟨[]⟩⟩,0):=if_pos c;rw [e0];simp only [decide_true,AT,fj,if_false];have ahU: ∀t:aZ,t.e≠0->kI b=none-> ∀(X:List aa×aZ->Option Bool) (Y:List aa×aZ->Option (aj×Int)),bD (bd (dP t) λkP=>bd (if !decide (kP.2.e=0) then some true else X kP:Option Bool) λw=>if w then some ((⟨(⟨0,0⟩:ak),0,0,false,0,([]:List UInt8),([]:List aa),(⟨([]:List aa)⟩:az)⟩:aj),(3:Int)) else Y kP) (mw s me b):=by intro t ht hn X Y;rw [U5 ht,ar];simp only [ht,decide_false,AI,if_true,ar];exact .mk (mw.P6 c hn)
 rw [yN hb hl,ar];cases H9:gf b with
 |none=>
  have hn:kI b=none:=by unfold kI;rw [H9]
  simp only;rw [uH (ir b),ar];simp only;rw [uH (ir b),ar];simp only;rw [vI (ir b),ar];exact ahU _ (ir b) hn _ _
 |some p1=>
  obtain ⟨v,r1⟩:=p1;obtain ⟨_,_,AW⟩:=iB hb H9;have l1:=jY H9;simp only;rw [yN AW (by omega),ar];cases uP:gf r1 with
  |none=>
   have hn:kI b=none:=by unfold kI;rw [H9];simp only;rw [uP]
   simp only;rw [uH (ir r1),ar];simp only;rw [vI (ir r1),ar];exact ahU _ (ir r1) hn _ _
  |some p2=>
   obtain ⟨h,r2⟩:=p2;obtain ⟨_,_,Ju⟩:=iB AW uP;have l2:=jY uP;simp only;rw [yN Ju (by omega),ar];cases ht3:gf r2 with
   |none=>
    have hn:kI b=none:=by unfold kI;rw [H9];simp only;rw [uP];simp only;rw [ht3]
    simp only;rw [vI (ir r2),ar];exact ahU _ (ir r2) hn _ _
   |some p3=>
    obtain ⟨w,r3⟩:=p3;obtain ⟨_,_,hr3⟩:=iB Ju ht3;have l3:=jY ht3;simp only;rcases P5 hr3 (by omega) with ⟨x,r4,g1,g2⟩|⟨g1,s',t,he,g2⟩;rotate_left
    ·have hn:kI b=none:=by unfold kI;rw [H9];simp only;rw [uP];simp only;rw [ht3];simp only;rw [g1]
     rw [g2,ar];exact ahU _ he hn _ _
    obtain ⟨_,_,hr4⟩:=Ex hr3 g1;have l4:=MN g1;rw [g2,ar];simp only;obtain ⟨⟨p,t⟩,e5,h5⟩:=W7 hr4 (by omega);rw [e5,ar];cases ht5:yM r4 with
    |none=>
     have hn:kI b=none:=by unfold kI;rw [H9];simp only;rw [uP];simp only;rw [ht3];simp only;rw [g1];simp only;rw [ht5]
     rw [ht5] at h5;simp only at h5;simp only [h5,decide_false,AI,if_true,ar];exact .mk (mw.P6 c hn)
    |some p5=>
     obtain ⟨p',r5⟩:=p5;rw [ht5] at h5;simp only at h5;injection h5 with h5 h6;subst h5;subst h6;have Ow:=P8 hr4 ht5;have hA:kI b=if r5=[] then some (v,h,w,x,p) else none:=by unfold kI;rw [H9];simp only;rw [uP];simp only;rw [ht3];simp only;rw [g1];simp only;rw [ht5]
     simp only [decide_true,AT,fj,if_false];have hf:iO (decide (h=1))=some (if h=1 then 1 else 0):=by unfold iO;by_cases c1:h=1<;>simp [c1]
     rw [hf,ar];by_cases c1:h=0\/h=1;rotate_left
     ·rw [if_pos (by rw [aaI,decide_eq_false_iff_not];intro hh;split at hh<;>omega),ar,if_pos rfl];by_cases c2:r5=[]
      ·rw [if_pos c2] at hA;exact .mk (mw.P7 c hA (λh=>absurd h.1 c1) (λ_=>rfl))
      ·rw [if_neg c2] at hA;exact .mk (mw.P6 c hA)
     rw [if_neg (by rw [aaI,decide_eq_false_iff_not];intro hh;apply hh;split<;>omega)];by_cases c2:r5=[];rotate_left
     ·rw [if_neg c2] at hA;have:0<r5.length:=List.length_pos_iff.2 c2;rw [if_pos (by omega),ar,if_pos rfl];exact .mk (mw.P6 c hA)
     rw [if_pos c2] at hA;rw [if_neg (by rw [c2];simp)];obtain ⟨ok,e6,h6⟩:=ae5 (mkA s me (v,h,w,x,p)) (by simp only [mkA];omega);have e7:eK (⟨s,me,v,decide (h=1),w,x,p,⟨[]⟩⟩:aj)=some ok:=e6;rw [e7,ar,ar];have QB:ok=true↔okA s me (v,h,w,x,p):=by rw [h6];exact ⟨λh=>⟨c1,h⟩,λh=>h.2⟩
     cases ok with
     |true=>simp only [AT,fj,if_false];exact .mk (mw.P7 c hA (λ_=>rfl) (λhk=>absurd (QB.1 rfl) hk))
     |false=>simp only [AI,if_true];exact .mk (mw.P7 c hA (λhk=>by have:=QB.2 hk;cases this) (λ_=>rfl))
end Dn.S
