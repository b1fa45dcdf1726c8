import Derived.Test.YtmdlghpieagfhaaGreatDnPAcc3
/-
  Acceptors that are loaded. Conditions: none.
-/
set_option linter.unusedVariables false
set_option linter.unusedSimpArgs false
open Bool renaming false_eq_true→eJ,not_false→AI,not_true→AT,not_eq_true'→aas
open List renaming replicate→sh,nil_append→IN,length_nil→IS,length_replicate→IT,getElem_append_right→No,append_assoc→aaa,set_append_right→aah,length_singleton→aai,map_append→aaD,append_nil→aaL,length_map→aaN,map_nil→aaR
open Int renaming natCast_zero→BY,toNat_natCast→OF
open Nat renaming le_refl→aaS
open Go Dn
namespace Dn.S
theorem xE {b:List Int}(hb:qO b)(hl:b.length<2^40):cg ⟨b,0⟩=some (match fS b with|some (n,r)=>(n,⟨r,0⟩)|none=>(0,⟨[],EI b⟩)):=by
 unfold cg;simp only [if_true];rw [K5 hb hl,ap,ap];cases fS b with
 |none=>rfl
 |some p=>rfl
theorem tL {t:aO}(he:t.e≠0):cg t=some (0,t):=by unfold cg;rw [if_neg he,ap]
theorem Mq {b:List Int}(hb:qO b)(hl:b.length<2^40):(∃s r,uK b 6000=some (s,r)/\dh ⟨b,0⟩=some (s,⟨r,0⟩))\/(uK b 6000=none/\ ∃s t,t.e≠0/\dh ⟨b,0⟩=some (s,t)):=by
 unfold dh;simp only [if_true];have e:kE b 6000=some (ZZ b 6000):=J0 (most:=6000) hb hl (by decide);rw [e,ap,ap];rcases FL b 6000 with ⟨s,r,h1,h2⟩|⟨h1,e,he,h2⟩
 ·exact .inl ⟨s,r,h1,by rw [h2]⟩
 ·exact .inr ⟨h1,[],⟨[],e⟩,he,by rw [h2]⟩
theorem uM {t:aO}(he:t.e≠0):dh t=some ([],t):=by unfold dh;rw [if_neg he,ap]
theorem Qr {t:aO}(he:t.e≠0):dw t=some ([],t):=by unfold dw;rw [tL he];simp only [ap,show¬((0:Int)<0) by decide,if_false,show decide ((100:Int)<0)=false by decide,eJ,he,decide_false,AI,if_true]
def zA:aa:=⟨0,0,[]⟩
def qF (y:Int):aa:=⟨y,0,[]⟩
theorem Zt {rA:Int×aO}{N:Nat}(hN:rA.1=(N:Int))(afz:N<=100){b:List Int}{e:Int}(he:e≠0): ∀(d k:Nat) (arr:List aa),k+d=N->arr.length=N-> ∃zN,zN.length=N/\Loop (cj rA) (arr,(k:Int),b,e)=some (zN,b,e):=by
 intro d;induction d with
 |zero=>intro k arr hk ha;refine ⟨arr,ha,np ?_⟩;unfold cj;simp only;rw [IT,hN,if_neg (by omega)]
 |succ d ih=>intro k arr hk ha;obtain ⟨zN,hx,h⟩:=ih (k+1) (arr.set k ⟨0,(arr[k]'(by omega)).View,(arr[k]'(by omega)).Value⟩) (by omega) (by rw [List.length_set];exact ha);refine ⟨zN,hx,jz ?_ h⟩;unfold cj;simp only;rw [IT,hN,if_pos (by omega),tL he,ap,bh (by omega),wrap64 (by omega) (by omega),OF];rfl
theorem aom {rA:Int×aO}{N:Nat}(hN:rA.1=(N:Int))(afz:N<=100): ∀(d:Nat) (pre:List Int) (b:List Int),qO b->b.length<2^40->pre.length+d=N-> (∃l r,jd d b=some (l,r)/\Loop (cj rA) (pre.map qF++sh d zA,(pre.length:Int),b,0)=some ((pre++l).map qF,r,0))\/ (jd d b=none/\ ∃arr r e,e≠0/\arr.length=N/\Loop (cj rA) (pre.map qF++sh d zA,(pre.length:Int),b,0)=some (arr,r,e)):=by
 intro d;induction d with
 |zero=>intro pre b hb hl hk;refine .inl ⟨[],b,rfl,np ?_⟩;unfold cj;simp only;rw [IT,hN,if_neg (by omega)];simp
 |succ d ih=>
  intro pre b hb hl hk;have hlen:(pre.map qF++sh (d+1) zA).length=N:=by simp;omega
  have tS:(pre.map qF++sh (d+1) zA)[pre.length]'(by omega)=zA:=by rw [No (by simp)];simp
  have Rn: ∀v,(pre.map qF++sh (d+1) zA).set pre.length v=pre.map qF++v::sh d zA:=by intro v;rw [aah _ _ (by simp)];simp [List.replicate_succ]
  have nR: ∀n r e,cg ⟨b,0⟩=some (n,⟨r,e⟩)->cj rA (pre.map qF++sh (d+1) zA,(pre.length:Int),b,0)=some (.inl ((pre++[n]).map qF++sh d zA,((pre.length+1:Nat):Int),r,e)):=by intro n r e ht;unfold cj;simp only;rw [IT,hN,if_pos (by omega),ht,ap,bh (by omega),tS,wrap64 (by omega) (by omega),OF,Rn,aaD,aaa];rfl
  have pO:=xE hb hl;simp only [jd];cases ht:fS b with
  |none=>rw [ht] at pO;obtain ⟨zN,hx,h⟩:=Zt hN afz (b:=[]) (iu b) d (pre.length+1) ((pre++[0]).map qF++sh d zA) (by omega) (by simp;omega);exact .inr ⟨rfl,zN,[],EI b,iu b,hx,jz (nR _ _ _ pO) h⟩
  |some p=>
   obtain ⟨n,r⟩:=p;rw [ht] at pO;obtain ⟨_,_,hr⟩:=iA hb ht;have V0:=kb ht;simp only;have e2:((pre.length+1:Nat):Int)=((pre++[n]).length:Int):=by simp
   rcases ih (pre++[n]) r hr (by omega) (by simp;omega) with ⟨l,r',h1,h2⟩|⟨h1,arr,r',e,he,hx,h2⟩
   ·refine .inl ⟨n::l,r',by rw [h1],jz (nR _ _ _ pO) ?_⟩;rw [e2,h2,aaa];rfl
   ·refine .inr ⟨by rw [h1],arr,r',e,he,hx,jz (nR _ _ _ pO) ?_⟩;rw [e2,h2]
theorem abK {w3:List aa×List Int×Int}{bQ:Int×aO}{ct:List UInt8×aO}(hl:w3.1.length<2^40): ∀(R L:List aa),(L++R).length=w3.1.length->Loop (fG w3 bQ ct) (L++R,(L.length:Int))=some (L++R.map λy=>⟨y.By,bQ.1,ct.1⟩):=by
 intro R;induction R with
 |nil=>intro L h;refine np ?_;unfold fG;simp only [aaL,aaR] at *;rw [if_neg (by omega)]
 |cons c R ih=>
  intro L h;have h2:L.length<(L++c::R).length:=by simp
  have tS: ∀(d:aa) (hh:L.length<(L++d::R).length),(L++d::R)[L.length]'hh=d:=by intro d hh;rw [No (aaS _)];simp
  have Rn: ∀d v:aa,(L++d::R).set L.length v=L++v::R:=by intro d v;rw [aah _ _ (aaS _)];simp
  have hih:=ih (L++[⟨c.By,bQ.1,ct.1⟩]) (by simp at *;omega);refine jz (s':=(L++[⟨c.By,bQ.1,ct.1⟩]++R,((L++[⟨c.By,bQ.1,ct.1⟩]:List aa).length:Int))) ?_ ?_
  ·unfold fG;simp only;rw [if_pos (by omega),bh h2,tS,OF,Rn,bh (by simp),tS,Rn,wrap64 (by omega) (by omega)];simp
  ·rw [hih];simp
theorem Sz {b:List Int}(hb:qO b)(hl:b.length<2^40):aL (dw ⟨b,0⟩) λr=>match xD b with|some (p,r')=>r=(p,⟨r',0⟩)|none=>r.2.e≠0:=by
 unfold dw xD;rw [xE hb hl,ap];cases ht:fS b with
 |none=>simp only [show¬((0:Int)<0) by decide,if_false,show decide ((100:Int)<0)=false by decide,ap,eJ,iu b,decide_false,AI,if_true];exact .mk (iu b)
 |some p=>
  obtain ⟨n,r⟩:=p;obtain ⟨_,hn,hr⟩:=iA hb ht;have V0:=kb ht;simp only;rw [or_some,ap];by_cases c:n<0\/100<n
  ·rw [decide_eq_true c,if_pos rfl,ap,if_pos c];simp only [show decide ((3:Int)=0)=false by decide,AI,if_true,ap];exact .mk (show (3:Int)≠0 by decide)
  ·rw [decide_eq_false c,if_neg (by simp),ap,if_neg c];simp only [decide_true,AT,eJ,if_false,ap];by_cases c0:n=0
   ·rw [if_pos c0,decide_eq_true c0,if_pos rfl];exact .mk rfl
   ·rw [if_neg c0,decide_eq_false c0,if_neg (by simp),if_pos ⟨by omega,trivial,by omega⟩];have hN:n=(n.toNat:Int):=by omega
    have h:=aom (rA:=(n,(⟨r,0⟩:aO))) hN (by omega) n.toNat [] r hr (by omega) (by simp);simp only [aaR,IN,IS,BY] at h;have iv:sh (Int.toNat n) (⟨0,0,([]:List UInt8)⟩:aa)=sh n.toNat zA:=rfl;rw [iv];rcases h with ⟨l,r1,h1,h2⟩|⟨h1,arr,r1,e,he,hx,h2⟩
    ·rw [h2,ap,h1];obtain ⟨_,hll,_,zO,aoo⟩:=vT _ hr h1;have hm:(l.map qF).length<2^40:=by rw [aaN];omega
     simp only;rw [xE zO (by omega),ap];cases tU:fS r1 with
     |none=>simp only;rw [uM (by exact iu r1),ap];have:=abK (w3:=(l.map qF,r1,0)) (bQ:=((0:Int),(⟨[],EI r1⟩:aO))) (ct:=(([]:List UInt8),(⟨[],EI r1⟩:aO))) hm (l.map qF) [] rfl;simp only [IN,IS,BY] at this;rw [this,ap];exact .mk (iu r1)
     |some p2=>
      obtain ⟨v,r2⟩:=p2;obtain ⟨_,_,Hf⟩:=iA zO tU;have aop:=kb tU;simp only;rcases Mq Hf (by omega) with ⟨x,r3,g1,g2⟩|⟨g1,s,t,he,g2⟩
      ·rw [g2,ap,g1];have:=abK (w3:=(l.map qF,r1,0)) (bQ:=(v,(⟨r2,0⟩:aO))) (ct:=(x,(⟨r3,0⟩:aO))) hm (l.map qF) [] rfl;simp only [IN,IS,BY] at this;rw [this,ap];refine .mk ?_;simp only [List.map_map,Qn];rfl
      ·rw [g2,ap,g1];have:=abK (w3:=(l.map qF,r1,0)) (bQ:=(v,(⟨r2,0⟩:aO))) (ct:=(s,t)) hm (l.map qF) [] rfl;simp only [IN,IS,BY] at this;rw [this,ap];exact .mk he
    ·rw [h2,ap,h1];simp only;rw [tL (by exact he),ap];simp only;rw [uM (by exact he),ap];have EQ:arr.length<2^40:=by omega
     have:=abK (w3:=(arr,r1,e)) (bQ:=((0:Int),(⟨r1,e⟩:aO))) (ct:=(([]:List UInt8),(⟨r1,e⟩:aO))) EQ arr [] rfl;simp only [IN,IS,BY] at this;rw [this,ap];exact .mk he
theorem Vs {N:Nat}(afz:N<=1000): ∀(d:Nat) (out:List Int) (b:List Int),qO b->b.length<2^40->out.length+d=N-> Loop (r6 (N:Int)) (b,out,(out.length:Int))=some (match jd d b with|some (l,r)=> .inl (r,out++l)|none=> .inr ([],[],false)):=by
 intro d;induction d with
 |zero=>intro out b hb hl hk;refine np ?_;unfold r6;simp only [jd];rw [if_neg (by omega),aaL]
 |succ d ih=>
  intro out b hb hl hk;simp only [jd];cases ht:fS b with
  |none=>refine np ?_;unfold r6;simp only;rw [if_pos (by omega),Cf hb hl,ap,ht];simp only [iu b,decide_false,AI,if_true]
  |some p=>
   obtain ⟨n,r⟩:=p;obtain ⟨_,_,hr⟩:=iA hb ht;have V0:=kb ht;have hih:=ih (out++[n]) r hr (by omega) (by simp;omega);refine jz (s':=(r,out++[n],((out++[n]).length:Int))) ?_ ?_
   ·unfold r6;simp only;rw [if_pos (by omega),Cf hb hl,ap,ht];simp only [decide_true,AT,eJ,if_false];rw [if_pos (by rw [aai];omega),wrap64 (by omega) (by omega)];simp
   ·rw [hih];simp only;cases jd d r with
    |none=>rfl
    |some q=>simp [aaa]
theorem vU {b:List Int}(hb:qO b)(hl:b.length<2^40){N:Nat}(h:N<=1000):tz b (N:Int)=some (match jd N b with|some (l,r)=>(l,r,true)|none=>([],[],false)):=by
 unfold tz;have:=Vs h N [] b hb hl (by simp);simp only [IS,BY,IN] at this;rw [this,ap];cases jd N b with
 |none=>rfl
 |some q=>rfl
theorem J7 (b:List Int):jd 1 b=match fS b with|some (n,r)=>some ([n],r)|none=>none:=by
 simp only [jd];cases fS b with
 |none=>rfl
 |some p=>rfl
theorem SA {l m:List Int}{v:Int}{x:List UInt8}{z:List Int}{y:Bool}{e:Int}{r1 r2:List Int}(h:l.length<=1000):Loop (s7 (l,r1,y) ([v],r2,y) (x,z,e)) ([],0)=some (Qn l v x):=by
 refine aL.eq (aL.count (λk=>(Qn (l.take k) v x,(k:Int))) l.length (λ_=>True) (by simp [Qn]) trivial (λk hk _=> ?_) (λ_=> ?_))
 ·unfold s7;simp only;have hlen:(Qn (l.take k) v x).length<=1000:=by unfold Qn;rw [aaN,List.length_take];omega
  rw [if_pos (by omega),bh hk,jT (by simp),if_pos (by rw [aai];omega),wrap64 (by omega) (by omega)];refine .mk ⟨?_,trivial⟩;unfold Qn;rw [List.take_add_one,List.getElem?_eq_getElem hk,aaD];rfl
 ·unfold s7;simp only;rw [if_neg (by omega),List.take_length];exact .mk rfl
theorem N5 {b:List Int}(hb:qO b)(hl:b.length<2^40):CE b=some (match xD b with|some (p,r)=>(p,r,true)|none=>([],[],false)):=by
 unfold CE xD;have h1:=vU hb hl (N:=1) (by decide);rw [J7,show ((1:Nat):Int)=1 from rfl] at h1;rw [h1,ap];cases ht:fS b with
 |none=>simp
 |some p=>
  obtain ⟨n,r⟩:=p;obtain ⟨_,hn,hr⟩:=iA hb ht;have V0:=kb ht;simp only [AT,eJ,if_false,jT (show 0<([n]:List Int).length by simp),List.getElem_cons_zero];rw [or_some,ap];by_cases c:n<0\/100<n
  ·rw [decide_eq_true c,if_pos rfl,if_pos c]
  ·rw [decide_eq_false c,if_neg (by simp),if_neg c];by_cases c0:n=0
   ·rw [if_pos c0,if_pos c0]
   ·rw [if_neg c0,if_neg c0];have h2:=vU hr (by omega) (N:=n.toNat) (by omega);rw [show (n.toNat:Int)=n by omega] at h2;rw [h2,ap];cases Ga:jd n.toNat r with
    |none=>simp
    |some q=>
     obtain ⟨l,r1⟩:=q;obtain ⟨_,hll,_,zO,aoo⟩:=vT _ hr Ga;have h3:=vU zO (by omega) (N:=1) (by decide);rw [J7,show ((1:Nat):Int)=1 from rfl] at h3;simp only [AT,eJ,if_false];rw [h3,ap];cases tU:fS r1 with
     |none=>simp
     |some q2=>
      obtain ⟨v,r2⟩:=q2;obtain ⟨_,_,Hf⟩:=iA zO tU;have aop:=kb tU;simp only [AT,eJ,if_false];have e4:nC r2 6000=some (ZZ r2 6000):=AB (most:=6000) Hf (by omega) (by decide);rw [e4,ap];rcases FL r2 6000 with ⟨s,r3,g1,g2⟩|⟨g1,e,he,g2⟩
      ·rw [g1,g2];simp only [decide_true,AT,eJ,if_false];rw [SA (m:=l) (by omega),ap]
      ·rw [g1,g2];simp only [he,decide_false,AI,if_true]
def EJ:ae:=⟨⟨0,0⟩,0,0,false,0,[],[],⟨[]⟩⟩
def sr (s:af)(me:Int):Prop:=cr s/\0<=me/\me<uI s
def kK (b:List Int):Option (Int×Int×Int×List UInt8×List aa):=match fS b with
 |none=>none
 |some (v,r1)=>match fS r1 with
  |none=>none
  |some (h,r2)=>match fS r2 with
   |none=>none
   |some (w,r3)=>match uK r3 6000 with
    |none=>none
    |some (x,r4)=>match xD r4 with
     |none=>none
     |some (p,r5)=>if r5=[] then some (v,h,w,x,p) else none
def Vt (s:af)(me:Int)(t:Int×Int×Int×List UInt8×List aa):ae:=⟨s,me,t.1,decide (t.2.1=1),t.2.2.1,t.2.2.2.1,t.2.2.2.2,⟨[]⟩⟩
def okA (s:af)(me:Int)(t:Int×Int×Int×List UInt8×List aa):Prop:=(t.2.1=0\/t.2.1=1)/\C3 (Vt s me t)
structure mu (s:af) (me:Int) (b:List Int) (r:ae×Int):Prop where
 bad: ¬sr s me->r=(EJ,1)
 form:sr s me->kK b=none->r=(EJ,3)
 no:sr s me-> ∀t,kK b=some t-> ¬okA s me t->r=(EJ,3)
 yes:sr s me-> ∀t,kK b=some t->okA s me t->r=(Vt s me t,0)
theorem mu.uniq {s:af}{me:Int}{b:List Int} {r r':ae×Int}(h:mu s me b r) (h':mu s me b r'):r=r':=by
 by_cases c:sr s me
 ·cases ht:kK b with
  |none=>rw [h.form c ht,h'.form c ht]
  |some t=>
   by_cases c2:okA s me t
   ·rw [h.yes c t ht c2,h'.yes c t ht c2]
   ·rw [h.no c t ht c2,h'.no c t ht c2]
 ·rw [h.bad c,h'.bad c]
theorem mu.Mr {s:af}{me:Int}{b:List Int}(c:sr s me)(ht:kK b=none):mu s me b (EJ,3):=⟨λh=>absurd c h,λ_ _=>rfl,λ_ t h=>by (rw [ht] at h;cases h),λ_ t h=>by (rw [ht] at h;cases h)⟩
theorem mu.Ms {s:af}{me:Int}{b:List Int}{t:Int×Int×Int×List UInt8×List aa}(c:sr s me)(ht:kK b=some t){r:ae×Int}(h1:okA s me t->r=(Vt s me t,0))(h2: ¬okA s me t->r=(EJ,3)):mu s me b r:=⟨λh=>absurd c h,λ_ h=>by (rw [ht] at h;cases h),λ_ t' h hn=>by (rw [ht] at h;injection h with h;subst h;exact h2 hn),λ_ t' h hn=>by (rw [ht] at h;injection h with h;subst h;exact h1 hn)⟩
theorem Mt {b:List Int}{p:List aa}{r:List Int}(hb:qO b)(h:xD b=some (p,r)):p.length<=100:=(Su hb h).2.1.len
theorem SB (s:af)(me:Int){b:List Int}(hb:qO b)(hl:b.length<2^40):aL (lL s me b) (mu s me b):=by
 unfold lL;rw [Mh,ap];by_cases c:sr s me;rotate_left
 ·have e0:FH s me=(⟨⟨0,0⟩,0,0,false,0,[],[],⟨[]⟩⟩,1):=if_neg c;rw [e0];simp only [show decide ((1:Int)=0)=false by decide,AI,if_true];exact .mk ⟨λ_=>rfl,λh=>absurd h c,λh=>absurd h c,λh=>absurd h c⟩
 have e0:FH s me=(⟨s,me,0,false,0,[],[],⟨[]⟩⟩,0):=if_pos c;rw [e0];simp only [decide_true,AT,eJ,if_false];have abL: ∀t:aO,t.e≠0->kK b=none-> ∀(X:List aa×aO->Option Bool) (Y:List aa×aO->Option (ae×Int)),aL (bd (dw t) λlz=>bd (if !decide (lz.2.e=0) then some true else X lz:Option Bool) λw=>if w then some ((⟨(⟨0,0⟩:af),0,0,false,0,([]:List UInt8),([]:List aa),(⟨([]:List aa)⟩:aD)⟩:ae),(3:Int)) else Y lz) (mu s me b):=by intro t ht hn X Y;rw [Qr ht,ap];simp only [ht,decide_false,AI,if_true,ap];exact .mk (mu.Mr c hn)
 rw [xE hb hl,ap];cases Ga:fS b with
 |none=>
  have hn:kK b=none:=by unfold kK;rw [Ga]
  simp only;rw [tL (iu b),ap];simp only;rw [tL (iu b),ap];simp only;rw [uM (iu b),ap];exact abL _ (iu b) hn _ _
 |some p1=>
  obtain ⟨v,r1⟩:=p1;obtain ⟨_,_,zO⟩:=iA hb Ga;have l1:=kb Ga;simp only;rw [xE zO (by omega),ap];cases tU:fS r1 with
  |none=>
   have hn:kK b=none:=by unfold kK;rw [Ga];simp only;rw [tU]
   simp only;rw [tL (iu r1),ap];simp only;rw [uM (iu r1),ap];exact abL _ (iu r1) hn _ _
  |some p2=>
   obtain ⟨h,r2⟩:=p2;obtain ⟨_,_,Hf⟩:=iA zO tU;have l2:=kb tU;simp only;rw [xE Hf (by omega),ap];cases VW:fS r2 with
   |none=>
    have hn:kK b=none:=by unfold kK;rw [Ga];simp only;rw [tU];simp only;rw [VW]
    simp only;rw [uM (iu r2),ap];exact abL _ (iu r2) hn _ _
   |some p3=>
    obtain ⟨w,r3⟩:=p3;obtain ⟨_,_,W6⟩:=iA Hf VW;have l3:=kb VW;simp only;rcases Mq W6 (by omega) with ⟨x,r4,g1,g2⟩|⟨g1,s',t,he,g2⟩;rotate_left
    ·have hn:kK b=none:=by unfold kK;rw [Ga];simp only;rw [tU];simp only;rw [VW];simp only;rw [g1]
     rw [g2,ap];exact abL _ he hn _ _
    obtain ⟨_,_,hr4⟩:=C6 W6 g1;have l4:=J4 g1;rw [g2,ap];simp only;obtain ⟨⟨p,t⟩,e5,h5⟩:=Sz hr4 (by omega);rw [e5,ap];cases ht5:xD r4 with
    |none=>
     have hn:kK b=none:=by unfold kK;rw [Ga];simp only;rw [tU];simp only;rw [VW];simp only;rw [g1];simp only;rw [ht5]
     rw [ht5] at h5;simp only at h5;simp only [h5,decide_false,AI,if_true,ap];exact .mk (mu.Mr c hn)
    |some p5=>
     obtain ⟨p',r5⟩:=p5;rw [ht5] at h5;simp only at h5;injection h5 with h5 h6;subst h5;subst h6;have MP:=Mt hr4 ht5;have hA:kK b=if r5=[] then some (v,h,w,x,p) else none:=by unfold kK;rw [Ga];simp only;rw [tU];simp only;rw [VW];simp only;rw [g1];simp only;rw [ht5]
     simp only [decide_true,AT,eJ,if_false];have hf:iN (decide (h=1))=some (if h=1 then 1 else 0):=by unfold iN;by_cases c1:h=1<;>simp [c1]
     rw [hf,ap];by_cases c1:h=0\/h=1;rotate_left
     ·rw [if_pos (by rw [aas,decide_eq_false_iff_not];intro hh;split at hh<;>omega),ap,if_pos rfl];by_cases c2:r5=[]
      ·rw [if_pos c2] at hA;exact .mk (mu.Ms c hA (λh=>absurd h.1 c1) (λ_=>rfl))
      ·rw [if_neg c2] at hA;exact .mk (mu.Mr c hA)
     rw [if_neg (by rw [aas,decide_eq_false_iff_not];intro hh;apply hh;split<;>omega)];by_cases c2:r5=[];rotate_left
     ·rw [if_neg c2] at hA;have:0<r5.length:=List.length_pos_iff.2 c2;rw [if_pos (by omega),ap,if_pos rfl];exact .mk (mu.Mr c hA)
     rw [if_pos c2] at hA;rw [if_neg (by rw [c2];simp)];obtain ⟨ok,e6,h6⟩:=Y7 (Vt s me (v,h,w,x,p)) (by simp only [Vt];omega);have e7:et (⟨s,me,v,decide (h=1),w,x,p,⟨[]⟩⟩:ae)=some ok:=e6;rw [e7,ap,ap];have M4:ok=true↔okA s me (v,h,w,x,p):=by rw [h6];exact ⟨λh=>⟨c1,h⟩,λh=>h.2⟩
     cases ok with
     |true=>simp only [AT,eJ,if_false];exact .mk (mu.Ms c hA (λ_=>rfl) (λhk=>absurd (M4.1 rfl) hk))
     |false=>simp only [AI,if_true];exact .mk (mu.Ms c hA (λhk=>by have:=M4.2 hk;cases this) (λ_=>rfl))
end Dn.S
